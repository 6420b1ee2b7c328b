/- Proved here, for this seat's claims: what the functions that the laws reach compute: the texts of this work, one behind the other, laid by a program of this session. Conditions: none beside the statement's own. -/
import Derived.Test.YtknbfhhmjbnemaaDoorMR1
import Derived.Test.YtknbfhhmjbnemaaDoorMR2
import Derived.Lib.OthersKept
import Derived.Laws.Externs
import Derived.Lib.UnsafeStr
import Derived.Lib.AppendIntMem
set_option linter.unusedVariables false
set_option linter.unusedSimpArgs false
section
namespace Go.Proofs.YtknbfhhmjbnemaaDoor.P
open Go.RowKit Go.Proofs.YtknbfhhmjbnemaaDoorW.PrintWords Go.Proofs.YtknbfhhmjbnemaaDoorW.PrintLast Go.Proofs.YtknbfhhmjbnemaaDoorW.PrintMore

set_option maxHeartbeats 16000000 in
set_option maxRecDepth 100000 in
theorem xL6 (k k2 : Nat) (s : ByteArray) (T : List S60) (at_ m : Int) (r : Except PErr (List S25 × List S60)) (w : World) (hm : w.cell? ⟨0, 0, none⟩ = some (.int .i64 m)) (h : xBi.f k s = some (T, 0, at_)) (hr : xE6 k2 T s.size [] = some r) :
    Calls Tryd.prog 9 #[.string s] w (parseO w r) := by
  have hmf : ∀ (fn : Fn) (first cap : Array Value) (w : World), (Instr.makeFunc fn first cap).run Tryd.prog w = .ok (.func fn first cap) w := fun _ _ _ _ => rfl
  have hu25 := Tryd.underlying25
  have HS := Aside0.mk h
  have HM := Aside0.mk hm
  have HH := Aside0.mk hr
  clear h hm hr
  have HN := Aside0.mk (show (((w.alloc (.cells #[.string (⟨#[]⟩ : ByteArray), .string (⟨#[]⟩ : ByteArray), .int .i64 0, .int .i64 0, .slice none 0 0] 25 (0, 0))).alloc (.cells #[.int .i64 0] 26 (0, 0))).alloc (.cells #[.int .i64 0] 3 (0, 0))).heap[w.heap.size]? = some (.cells #[.string (⟨#[]⟩ : ByteArray), .string (⟨#[]⟩ : ByteArray), .int .i64 0, .int .i64 0, .slice none 0 0] 25 (0, 0)) from xA6 (xA6 (xBj _ _) _) _)
  have HE := Aside0.mk (show (((w.alloc (.cells #[.string (⟨#[]⟩ : ByteArray), .string (⟨#[]⟩ : ByteArray), .int .i64 0, .int .i64 0, .slice none 0 0] 25 (0, 0))).alloc (.cells #[.int .i64 0] 26 (0, 0))).alloc (.cells #[.int .i64 0] 3 (0, 0))).heap[w.heap.size + 1]? = some (.cells #[.int .i64 0] 26 (0, 0)) from xA6 (by have := xBj (w.alloc (.cells #[.string (⟨#[]⟩ : ByteArray), .string (⟨#[]⟩ : ByteArray), .int .i64 0, .int .i64 0, .slice none 0 0] 25 (0, 0))) (.cells #[.int .i64 0] 26 (0, 0)); rwa [World.size_alloc] at this) _)
  have HA := Aside0.mk (show (((w.alloc (.cells #[.string (⟨#[]⟩ : ByteArray), .string (⟨#[]⟩ : ByteArray), .int .i64 0, .int .i64 0, .slice none 0 0] 25 (0, 0))).alloc (.cells #[.int .i64 0] 26 (0, 0))).alloc (.cells #[.int .i64 0] 3 (0, 0))).heap[w.heap.size + 1 + 1]? = some (.cells #[.int .i64 0] 3 (0, 0)) from by have := xBj ((w.alloc (.cells #[.string (⟨#[]⟩ : ByteArray), .string (⟨#[]⟩ : ByteArray), .int .i64 0, .int .i64 0, .slice none 0 0] 25 (0, 0))).alloc (.cells #[.int .i64 0] 26 (0, 0))) (.cells #[.int .i64 0] 3 (0, 0)); rwa [World.size_alloc, World.size_alloc] at this)
  have HB := Aside0.mk (show Below w.heap.size w (((w.alloc (.cells #[.string (⟨#[]⟩ : ByteArray), .string (⟨#[]⟩ : ByteArray), .int .i64 0, .int .i64 0, .slice none 0 0] 25 (0, 0))).alloc (.cells #[.int .i64 0] 26 (0, 0))).alloc (.cells #[.int .i64 0] 3 (0, 0))) from xA2 (xA2 (xA2 (Below.refl _ _) _) _) _)
  go_enter_defers Tryd.func9, Tryd.ntmps9
  go_upto_region 1 with (fail)
  generalize (((w.alloc (.cells #[.string (⟨#[]⟩ : ByteArray), .string (⟨#[]⟩ : ByteArray), .int .i64 0, .int .i64 0, .slice none 0 0] 25 (0, 0))).alloc (.cells #[.int .i64 0] 26 (0, 0))).alloc (.cells #[.int .i64 0] 3 (0, 0))) = w1 at *
  have NE1 := Aside0.mk (show w.heap.size + 1 ≠ w.heap.size + 1 + 1 by omega)
  have NE2 := Aside0.mk (show w.heap.size ≠ w.heap.size + 1 by omega)
  have NE3 := Aside0.mk (show w.heap.size ≠ w.heap.size + 1 + 1 by omega)
  have GE1 := Aside0.mk (show w.heap.size ≤ w.heap.size + 1 by omega)
  have GE2 := Aside0.mk (show w.heap.size ≤ w.heap.size + 1 + 1 by omega)
  generalize hbe : w.heap.size + 1 = be at *
  generalize hba : be + 1 = ba at *
  clear hbe hba
  have nba := NE1.out
  have nba' := NE1.out.symm
  go_upto_region 2 with (go_at_call 17; (with_reducible refine (xBi.calls k s T 0 at_ w1 HS.out).mono ?_); rintro e w2 ⟨v0, rfl, hR, hb⟩; have HR := Aside0.mk hR; have HB2 := Aside0.mk (xBv HB.out HB.out.size hb); have HN2 := Aside0.mk (xAx HN.out hb); have HE2 := Aside0.mk (xAx HE.out hb); have HA2 := Aside0.mk (xAx HA.out hb); have c0 := (xA4 HE2.out 0).trans rfl; have f0 := xA5 HE2.out 0; have c1 := (xA4 HA2.out 0).trans rfl; have f1 := xA5 HA2.out 0; clear hR hb)
  generalize hW : World.setCell (World.setCell w2 _ _) _ _ = W3
  have HN3 := Aside0.mk (show W3.heap[w.heap.size]? = some (.cells #[.string (⟨#[]⟩ : ByteArray), .string (⟨#[]⟩ : ByteArray), .int .i64 0, .int .i64 0, .slice none 0 0] 25 (0, 0)) from by rw [← hW]; exact xAh (p := ⟨ba, 0, none⟩) (xAh (p := ⟨be, 0, none⟩) HN2.out NE2.out _) NE3.out _)
  have HE3 := Aside0.mk (show W3.heap[be]? = some (.cells #[.int .i64 0] 26 (0, 0)) from by rw [← hW]; exact xAh (p := ⟨ba, 0, none⟩) (xA1 HE2.out 0 _ rfl) NE1.out _)
  have HA3 := Aside0.mk (show W3.heap[ba]? = some (.cells #[.int .i64 at_] 3 (0, 0)) from by rw [← hW]; exact xA1 (xAh (p := ⟨be, 0, none⟩) HA2.out NE1.out.symm _) 0 _ rfl)
  have HB3 := Aside0.mk (show Below w.heap.size w W3 from by rw [← hW]; exact (HB2.out.setCell (p := ⟨be, 0, none⟩) GE1.out _).setCell (p := ⟨ba, 0, none⟩) GE2.out _)
  have HR3 := Aside0.mk (show Kd.R k60 60 W3 w1.heap.size (fun k => w1.heap.size ≤ k) v0 T from by rw [← hW]; exact Kd.R_far (p := ⟨ba, 0, none⟩) (Kd.R_far (p := ⟨be, 0, none⟩) (Kd.R_mono (Kd.R_bound HR.out) (fun k hk => hk.2.1)) (fun k hk => by have := xBs HE.out; show k ≠ be; omega) _) (fun k hk => by have := xBs HA.out; show k ≠ ba; omega) _)
  clear hW HN HE HA HB HN2 HE2 HA2 HB2 c0 f0 c1 f1
  have c0 := (xA4 HE3.out 0).trans rfl
  obtain ⟨A, c, rfl⟩ := Kd.R_slice HR.out
  go_upto_region 6 with (fail)
  clear c0
  generalize hW : World.alloc W3 _ = Wp
  have SZ0 := Aside0.mk (xLa HM.out)
  obtain ⟨_, hcc, hreads⟩ := Kd.R_reads' HR3.out
  have HTY := Kd.R_typed HR3.out
  have PS := Aside0.mk (show PsS W3 Wp Wp W3.heap.size T s.size from by
    rw [← hW]
    refine ⟨⟨A, c, xBj _ _, hcc, hreads, fun a ha => ?_⟩, Nat.le_refl _, xA2 (Below.refl _ _) _, xAk.refl _ _ _, m, xAb HB3.out HM.out⟩
    subst ha
    obtain ⟨gg, rfl⟩ := Kd.R_head HR3.out
    exact HTY gg (by simp [Value.ownBlock]))
  clear hcc hreads HTY
  have HNp := Aside0.mk (show Wp.heap[w.heap.size]? = some (.cells #[.string (⟨#[]⟩ : ByteArray), .string (⟨#[]⟩ : ByteArray), .int .i64 0, .int .i64 0, .slice none 0 0] 25 (0, 0)) from by rw [← hW]; exact xA6 HN3.out _)
  have HEp := Aside0.mk (show Wp.heap[be]? = some (.cells #[.int .i64 0] 26 (0, 0)) from by rw [← hW]; exact xA6 HE3.out _)
  have HAp := Aside0.mk (show Wp.heap[ba]? = some (.cells #[.int .i64 at_] 3 (0, 0)) from by rw [← hW]; exact xA6 HA3.out _)
  have HBp := Aside0.mk (show Below w.heap.size w Wp from by rw [← hW]; exact xA2 HB3.out _)
  clear hW
  have c0 := (xA4 HNp.out 0).trans rfl
  have f0 := xA5 HNp.out 0
  go_upto_block 0 with (fail)
  clear c0 f0
  generalize hW : World.setCell Wp _ _ = W6
  have LS := Aside0.mk (show LpS w W6 W3.heap.size w.heap.size be ba W3.heap.size T s.size at_ (.slice none 0 0) [] from by
    have h1 := xBs HN3.out
    have h2 := xBs HE3.out
    have h3 := xBs HA3.out
    have h4 := SZ0.out
    rw [← hW]
    exact ⟨⟨xA1 HNp.out 0 _ rfl, xAh (p := ⟨w.heap.size, 0, none⟩) HEp.out NE2.out.symm _, xAh (p := ⟨w.heap.size, 0, none⟩) HAp.out NE3.out.symm _, HBp.out.setCell (p := ⟨w.heap.size, 0, none⟩) (Nat.le_refl _) _, h1, h2, h3, Nat.le_refl _, GE1.out, GE2.out, SZ0.out⟩, ⟨W3.setCell ⟨w.heap.size, 0, none⟩ (.string (⟨#[102, 105, 108, 101]⟩ : ByteArray)), by simp [World.setCell], PS.out.both HN3.out (by decide) (Nat.ne_of_gt SZ0.out) _⟩, Kd.N_nil _ _ _ _ _⟩)
  clear hW HNp HEp HAp HBp PS HR3 HR HN3 HE3 HA3 HB3 nba nba'
  generalize W3.heap.size = g at *
  go_wp2_with (fail)
  go_loopg [] k2 (fun kx wr => ∃ (kk : Nat) (TT : List S60) (acc : List S25) (Lv : Value), kk ≤ kx ∧ Aside0 (LpS w wr g w.heap.size be ba g TT s.size at_ Lv acc) ∧ Aside0 (xE6 kk TT s.size acc = some r))
  case atStart => exact ⟨k2, _, _, _, Nat.le_refl _, LS, HH⟩
  case round =>
    clear HH LS
    obtain ⟨kk, TT, acc, Lv, hk1, EL, HH⟩ := hrel
    cases kk with
    | zero => exact absurd HH.out (by rw [xE6]; simp)
    | succ kk =>
      have hl := HH.out
      clear HH
      rw [xE6] at hl
      obtain ⟨AL, cL, rfl⟩ := Kd.N_slice EL.out.row
      by_cases hb : acc.length ≤ 1000000
      case neg => rw [if_neg hb] at hl; cases hl
      rw [if_pos hb] at hl
      obtain ⟨w0, hs0, hps⟩ := EL.out.ps
      have HS0 := Aside0.mk hs0
      have HPS := Aside0.mk hps
      clear hs0
      obtain ⟨⟨At, ct, hbk, hct, hCt, hx1⟩, hx2⟩ := hps
      have x0 := (xA4 hbk 0).trans rfl
      clear hbk hct hCt hx1 hx2
      by_cases hT : TT = []
      · skip
        subst hT
        have d0 := True.intro
        rw [if_pos rfl] at hl
        simp only [Option.some.injEq] at hl
        subst hl
        obtain ⟨n0, n1, n2, n3, n4, m0, m1, m2, m3, m4⟩ := ex5 EL.out.b.nb
        go_upto_region 9 with (fail)
        have me0 := (xA4 EL.out.b.eb 0).trans rfl
        have ma0 := (xA4 EL.out.b.ab 0).trans rfl
        have q1 := NE1.out
        have q2 := NE2.out
        have q3 := NE3.out
        have q1s := NE1.out.symm
        have q2s := NE2.out.symm
        have q3s := NE3.out.symm
        have me := xA5 EL.out.b.eb 0
        have ma := xA5 EL.out.b.ab 0
        refine Code.wp_mono (P := Tryd.prog) (Q := End9 w [{ target := .fn (.func 18) #[.pointer (some ⟨w.heap.size, 0, none⟩), .pointer (some ⟨be, 0, none⟩), .pointer (some ⟨ba, 0, none⟩)], args := #[] }] w.heap.size be ba acc) ?_ ?_
        · rintro e ⟨t, d⟩ w' h9
          obtain ⟨rfl, hd, h2, h3, h4, ⟨Lz, hnb, hrow⟩, heb, hab, hbel⟩ := h9
          have HD := Aside0.mk hd
          have H2 := Aside0.mk h2
          have H3 := Aside0.mk h3
          have H4 := Aside0.mk h4
          have HZ := Aside0.mk (And.intro hnb (And.intro heb (And.intro hab (And.intro hbel hrow))))
          clear hd h2 h3 h4 hnb heb hab hbel hrow x0 n0 n1 n2 n3 n4 m0 m1 m2 m3 m4 me ma me0 ma0 q1 q2 q3 q1s q2s q3s
          go_wp2_with (fail)
          have hd := HD.out
          have hz := HZ.out
          show Leaves Tryd.prog Tryd.f9 t _ d _ _
          rw [hd]
          refine leaves_cons (by intro h; cases h) rfl ((xJq _ _ _ _).mono ?_)
          rintro e u' w9 ⟨rfl, rfl, rfl⟩
          exact ⟨_, results9 _ _ w.heap.size be ba _ _ _ _ _ _ _ H2.out H3.out H4.out hz.1 hz.2.1 hz.2.2.1, ⟨_, rfl, hz.2.2.2.2, hz.2.2.2.1⟩⟩
        clear x0
        refine wp_region_lit ?_
        refine wpList_plain rfl (fun K hK => ?_)
        go_simp
        refine hK _ _ ?_
        clear hK K
        refine wpList_plain rfl (fun K hK => ?_)
        go_simp
        refine hK _ _ ?_
        clear hK K
        refine wpList_plain rfl (fun K hK => ?_)
        go_simp
        refine hK _ _ ?_
        clear hK K
        refine wpList_plain rfl (fun K hK => ?_)
        go_simp
        refine hK _ _ ?_
        clear hK K
        have g1 := xAh (p := ⟨ba, 0, none⟩) (xAh (p := ⟨be, 0, none⟩) (xA1 (xA1 (xA1 (xA1 (xA1 EL.out.b.nb 0 (.string (⟨#[102, 105, 108, 101]⟩ : ByteArray)) rfl) 1 (.string (⟨#[]⟩ : ByteArray)) rfl) 2 (.int .i64 0) rfl) 3 (.int .i64 0) rfl) 4 (.slice AL acc.length cL) rfl) NE2.out (.int .i64 0)) NE3.out (.int .i64 (-1))
        have g2 := xAh (p := ⟨ba, 0, none⟩) (xA1 (xAh (p := ⟨w.heap.size, 4, none⟩) (xAh (p := ⟨w.heap.size, 3, none⟩) (xAh (p := ⟨w.heap.size, 2, none⟩) (xAh (p := ⟨w.heap.size, 1, none⟩) (xAh (p := ⟨w.heap.size, 0, none⟩) EL.out.b.eb NE2.out.symm (.string (⟨#[102, 105, 108, 101]⟩ : ByteArray))) NE2.out.symm (.string (⟨#[]⟩ : ByteArray))) NE2.out.symm (.int .i64 0)) NE2.out.symm (.int .i64 0)) NE2.out.symm (.slice AL acc.length cL)) 0 (.int .i64 0) rfl) NE1.out (.int .i64 (-1))
        have g3 := xA1 (xAh (p := ⟨be, 0, none⟩) (xAh (p := ⟨w.heap.size, 4, none⟩) (xAh (p := ⟨w.heap.size, 3, none⟩) (xAh (p := ⟨w.heap.size, 2, none⟩) (xAh (p := ⟨w.heap.size, 1, none⟩) (xAh (p := ⟨w.heap.size, 0, none⟩) EL.out.b.ab NE3.out.symm (.string (⟨#[102, 105, 108, 101]⟩ : ByteArray))) NE3.out.symm (.string (⟨#[]⟩ : ByteArray))) NE3.out.symm (.int .i64 0)) NE3.out.symm (.int .i64 0)) NE3.out.symm (.slice AL acc.length cL)) NE1.out.symm (.int .i64 0)) 0 (.int .i64 (-1)) rfl
        have hBz := ((((((EL.out.b.bel.setCell (p := ⟨w.heap.size, 0, none⟩) (Nat.le_refl _) (.string (⟨#[102, 105, 108, 101]⟩ : ByteArray))).setCell (p := ⟨w.heap.size, 1, none⟩) (Nat.le_refl _) (.string (⟨#[]⟩ : ByteArray))).setCell (p := ⟨w.heap.size, 2, none⟩) (Nat.le_refl _) (.int .i64 0)).setCell (p := ⟨w.heap.size, 3, none⟩) (Nat.le_refl _) (.int .i64 0)).setCell (p := ⟨w.heap.size, 4, none⟩) (Nat.le_refl _) (.slice AL acc.length cL)).setCell (p := ⟨be, 0, none⟩) GE1.out (.int .i64 0)).setCell (p := ⟨ba, 0, none⟩) GE2.out (.int .i64 (-1))
        have hRz := (Kd.N_far (p := ⟨ba, 0, none⟩) (Kd.N_far (p := ⟨be, 0, none⟩) (Kd.N_far (p := ⟨w.heap.size, 4, none⟩) (Kd.N_far (p := ⟨w.heap.size, 3, none⟩) (Kd.N_far (p := ⟨w.heap.size, 2, none⟩) (Kd.N_far (p := ⟨w.heap.size, 1, none⟩) (Kd.N_far (p := ⟨w.heap.size, 0, none⟩) EL.out.row (fun k hk => by have h1 := EL.out.b.n1; have h2 := EL.out.b.n2; have h3 := EL.out.b.n3; have h4 := hk.1; show k ≠ w.heap.size; omega) (.string (⟨#[102, 105, 108, 101]⟩ : ByteArray))) (fun k hk => by have h1 := EL.out.b.n1; have h2 := EL.out.b.n2; have h3 := EL.out.b.n3; have h4 := hk.1; show k ≠ w.heap.size; omega) (.string (⟨#[]⟩ : ByteArray))) (fun k hk => by have h1 := EL.out.b.n1; have h2 := EL.out.b.n2; have h3 := EL.out.b.n3; have h4 := hk.1; show k ≠ w.heap.size; omega) (.int .i64 0)) (fun k hk => by have h1 := EL.out.b.n1; have h2 := EL.out.b.n2; have h3 := EL.out.b.n3; have h4 := hk.1; show k ≠ w.heap.size; omega) (.int .i64 0)) (fun k hk => by have h1 := EL.out.b.n1; have h2 := EL.out.b.n2; have h3 := EL.out.b.n3; have h4 := hk.1; show k ≠ w.heap.size; omega) (.slice AL acc.length cL)) (fun k hk => by have h1 := EL.out.b.n1; have h2 := EL.out.b.n2; have h3 := EL.out.b.n3; have h4 := hk.1; show k ≠ be; omega) (.int .i64 0)) (fun k hk => by have h1 := EL.out.b.n1; have h2 := EL.out.b.n2; have h3 := EL.out.b.n3; have h4 := hk.1; show k ≠ ba; omega) (.int .i64 (-1)))
        exact ⟨rfl, rfl, rfl, rfl, rfl, ⟨_, g1, Kd.N_mono hRz (fun k hk => Nat.le_trans (Nat.le_trans EL.out.b.n4 (Nat.le_of_lt EL.out.b.n1)) hk.1)⟩, g2, g3, hBz⟩
      rw [if_neg hT] at hl
      have HH := Aside0.mk hl
      clear hl
      have hlen : 0 < TT.length := List.length_pos_iff.mpr hT
      generalize hnn : TT.length = nT at x0 hlen
      clear hnn
      have d1 : (0 : Int) < (nT : Int) := by omega
      go_upto_region 8 with (fail)
      have hh := HH.out
      clear HH x0 d1
      rcases xBd hh with ⟨x, hx, rfl⟩ | ⟨a1, T1, hx, h1⟩
      · skip
        have HX := Aside0.mk hx
        clear hx hh
        refine xIh [{ target := .fn (.func 18) #[.pointer (some ⟨w.heap.size, 0, none⟩), .pointer (some ⟨be, 0, none⟩), .pointer (some ⟨ba, 0, none⟩)], args := #[] }] (.pointer (some ⟨w.heap.size, 0, none⟩)) (.pointer (some ⟨be, 0, none⟩)) (.pointer (some ⟨ba, 0, none⟩)) (fun c W' => c = xGc x ∧ LpB w W' g w.heap.size be ba (.slice AL acc.length cL) at_) ?_ ?_
        · rintro c ⟨t, d⟩ W' hd h2 h3 h4 ⟨rfl, LB⟩
          show Leaves Tryd.prog Tryd.f9 t _ d _ _
          replace hd : d = _ := hd
          rw [hd]
          refine leaves_cons (by intro h; cases h) rfl ((xGm w.heap.size be ba 0 x _ _ _ _ _ _ _ W' LB.nb LB.eb LB.ab).mono ?_)
          rintro e u' w9 ⟨rfl, rfl, g1, g2, g3, g4⟩
          exact ⟨_, results9 t w9 w.heap.size be ba _ _ _ _ _ _ _ h2 h3 h4 g1 g2 g3, ⟨_, rfl, Kd.N_nil _ _ _ _ _, g4 _ _ (Nat.le_refl _) GE1.out GE2.out LB.bel⟩⟩
        refine xDt (n := 11) (S := fun w' => w'.cell? ⟨w.heap.size, 4, none⟩ = some (.slice AL acc.length cL)) (ds := [8, 10]) #[false, false, false, false, false, false, false, false, false, false, false] (by kernel_rfl) rfl rfl ?hS (fun hHeld => ?_)
        case hS => exact (xA4 (xAc EL.out.b.nb) 4).trans rfl
        have ED := Aside0.mk EL.out.drew
        have HB0 := Aside0.mk (show ∀ k, (Value.slice AL acc.length cL).ownBlock = some k → k < wr.drew.heap.size from EL.out.rowlt)
        have HG0 := Aside0.mk (show g < wr.drew.heap.size from EL.out.lt)
        clear EL HPS HS0
        generalize World.drew wr = wd at *
        have x4 := (xA4 ED.out.b.nb 4).trans rfl
        refine xC1 (i := 0) (N := some 31) (v := ?_) (a' := ?_) #[true, false, false, false, false, false, false, false, false, false, false] rfl rfl (by kernel_rfl) (QP.hq rfl (by decide) (by decide) (by decide)) (Or.inl ⟨by rfl, ?_⟩) ?_ ?_
        rotate_left
        · intro w'
          go_simp
          with_reducible rfl
        rotate_left
        · simp only [Act.put, List.setIfInBounds_toArray, List.set_cons_zero, List.set_cons_succ, xB1, xB2]
          rfl
        refine xC1 (i := 2) (N := some 33) (v := ?_) (a' := ?_) #[true, false, true, false, false, false, false, false, false, false, false] rfl rfl (by kernel_rfl) (QP.hq rfl (by decide) (by decide) (by decide)) (Or.inl ⟨by rfl, ?_⟩) ?_ ?_
        rotate_left
        · intro w'
          go_simp
          with_reducible rfl
        rotate_left
        · simp only [Act.put, List.setIfInBounds_toArray, List.set_cons_zero, List.set_cons_succ, xB1, xB2]
          rfl
        refine xDu (i := 1) (N := some 32) (v := ?_) (a' := ?_) #[true, true, true, false, false, false, false, false, false, false, false] rfl rfl (by kernel_rfl) (QP.hq rfl (by decide) (by decide) (by decide)) (Or.inl ⟨by rfl, ?_⟩) hHeld ?_ ?_
        rotate_left
        · rintro w' s0
          go_simp
          with_reducible rfl
        rotate_left
        · simp only [Act.put, List.setIfInBounds_toArray, List.set_cons_zero, List.set_cons_succ, xB1, xB2]
          rfl
        refine xC1 (i := 4) (N := some 35) (v := ?_) (a' := ?_) #[true, true, true, false, true, false, false, false, false, false, false] rfl rfl (by kernel_rfl) (QP.hq rfl (by decide) (by decide) (by decide)) (Or.inl ⟨by rfl, ?_⟩) ?_ ?_
        rotate_left
        · intro w'
          go_simp
          with_reducible rfl
        rotate_left
        · simp only [Act.put, List.setIfInBounds_toArray, List.set_cons_zero, List.set_cons_succ, xB1, xB2]
          rfl
        have SZ := Aside0.mk (Nat.le_refl wd.heap.size)
        refine two_ (i := 3) (j := 5) (Ni := some 34) (Nj := some 36) #[true, true, true, true, true, false, false, false, false, false, false] #[true, true, true, false, true, true, false, false, false, false, false] rfl rfl rfl rfl (by kernel_rfl) (by decide) (by decide) ?_ ?_
        · intro K hK
          obtain ⟨w0_1, hs_1, hp_1⟩ := ED.out.ps
          have HS_1 := Aside0.mk hs_1
          have HP_1 := Aside0.mk hp_1
          clear hs_1 hp_1
          refine xD5 Tryd.func19 (by kernel_rfl) rfl #[.pointer (some ⟨g, 0, none⟩)] (by rfl) rfl rfl (by first | rfl | (simp [Act.eval]; done) | (go_simp; done)) (R := PRes (α := S25) w0_1 wd g s.size (xD8 wd) (.error x)) (xEw kk g _ _ _ w0_1 wd HP_1.out HX.out) ?_
          rintro e w2 ⟨rfl, h2⟩
          exact .inl ⟨_, rfl, ⟨rfl, rfl, rfl, rfl, rfl, ED.out.fault (x := x) (e := .panicked (xGc x)) HS_1.out HP_1.out ⟨rfl, h2⟩⟩⟩
        · intro K hK
          refine Kd.N_lit_step k25 (w0 := wd) wd.heap.size 25 (by rfl) (N' := 36) rfl (xs := [z25]) (inner := [.string z25.f0, .string z25.f1, .int .i64 z25.f2, .int .i64 z25.f3, .slice none z25.f4.length 0]) (ok := (fun k => wd.heap.size ≤ k)) (okp := (fun k => wd.heap.size ≤ k)) ?hr ((Reps.none _ _).snoc (xCn (base := 0) (Kd.N_nil _ _ _ _ _)) rfl) (fun _ hk => hk) ?hf (Below.refl _ _) (Nat.le_refl _) (by show 1 ≤ 9223372036854775807; decide) ?_
          case hr => first | (go_simp; done) | (go_simp; rfl)
          case hf => exact SZ.out
          intro v7 w7 hN7 hb7 hg7 hat7
          obtain ⟨A7, c7, rfl⟩ := Kd.N_slice hN7
          have E7 := Aside0.mk (ED.out.below hb7)
          have HN7 := Aside0.mk hN7
          have SZ7 := Aside0.mk hb7.size
          have HBB7 := Aside0.mk hb7
          clear hN7 hb7 hg7 hat7
          try clear hHeld
          refine hK.out _ _ ((xA4 E7.out.b.nb 4).trans rfl) (fun hHeld => ?_)
          clear hK K
          refine xCp (a' := ?_) ?_ ?_
          rotate_left
          · show Act.put _ (some 36) _ = _
            simp only [Act.put, List.setIfInBounds_toArray, List.set_cons_zero, List.set_cons_succ, xB1, xB2]
            rfl
          refine one_ (i := 3) (N := some 34) #[true, true, true, true, true, true, false, false, false, false, false] rfl rfl (by kernel_rfl) (by decide) (fun K hK => ?_)
          obtain ⟨w0_2, hs_2, hp_2⟩ := E7.out.ps
          have HS_2 := Aside0.mk hs_2
          have HP_2 := Aside0.mk hp_2
          clear hs_2 hp_2
          refine xD5 Tryd.func19 (by kernel_rfl) rfl #[.pointer (some ⟨g, 0, none⟩)] (by rfl) rfl rfl (by first | rfl | (simp [Act.eval]; done) | (go_simp; done)) (R := PRes (α := S25) w0_2 w7 g s.size (xD8 w7) (.error x)) (xEw kk g _ _ _ w0_2 w7 HP_2.out HX.out) ?_
          rintro e w2 ⟨rfl, h2⟩
          exact .inl ⟨_, rfl, ⟨rfl, rfl, rfl, rfl, rfl, E7.out.fault (x := x) (e := .panicked (xGc x)) HS_2.out HP_2.out ⟨rfl, h2⟩⟩⟩
      have HX := Aside0.mk hx
      have HH := Aside0.mk h1
      clear hx h1 hh
      refine wp_region_noPanic ?_
      refine xDt (n := 11) (S := fun w' => w'.cell? ⟨w.heap.size, 4, none⟩ = some (.slice AL acc.length cL)) (ds := [8, 10]) #[false, false, false, false, false, false, false, false, false, false, false] (by kernel_rfl) rfl rfl ?hS (fun hHeld => ?_)
      case hS => exact (xA4 (xAc EL.out.b.nb) 4).trans rfl
      have ED := Aside0.mk EL.out.drew
      have HB0 := Aside0.mk (show ∀ k, (Value.slice AL acc.length cL).ownBlock = some k → k < wr.drew.heap.size from EL.out.rowlt)
      have HG0 := Aside0.mk (show g < wr.drew.heap.size from EL.out.lt)
      clear EL HPS HS0
      generalize World.drew wr = wd at *
      have x4 := (xA4 ED.out.b.nb 4).trans rfl
      refine xC1 (i := 0) (N := some 31) (v := ?_) (a' := ?_) #[true, false, false, false, false, false, false, false, false, false, false] rfl rfl (by kernel_rfl) (fun _ _ _ h => h) (Or.inl ⟨by rfl, ?_⟩) ?_ ?_
      rotate_left
      · intro w'
        go_simp
        with_reducible rfl
      rotate_left
      · simp only [Act.put, List.setIfInBounds_toArray, List.set_cons_zero, List.set_cons_succ, xB1, xB2]
        rfl
      refine xC1 (i := 2) (N := some 33) (v := ?_) (a' := ?_) #[true, false, true, false, false, false, false, false, false, false, false] rfl rfl (by kernel_rfl) (fun _ _ _ h => h) (Or.inl ⟨by rfl, ?_⟩) ?_ ?_
      rotate_left
      · intro w'
        go_simp
        with_reducible rfl
      rotate_left
      · simp only [Act.put, List.setIfInBounds_toArray, List.set_cons_zero, List.set_cons_succ, xB1, xB2]
        rfl
      refine xDu (i := 1) (N := some 32) (v := ?_) (a' := ?_) #[true, true, true, false, false, false, false, false, false, false, false] rfl rfl (by kernel_rfl) (fun _ _ _ h => h) (Or.inl ⟨by rfl, ?_⟩) hHeld ?_ ?_
      rotate_left
      · rintro w' s0
        go_simp
        with_reducible rfl
      rotate_left
      · simp only [Act.put, List.setIfInBounds_toArray, List.set_cons_zero, List.set_cons_succ, xB1, xB2]
        rfl
      refine xC1 (i := 4) (N := some 35) (v := ?_) (a' := ?_) #[true, true, true, false, true, false, false, false, false, false, false] rfl rfl (by kernel_rfl) (fun _ _ _ h => h) (Or.inl ⟨by rfl, ?_⟩) ?_ ?_
      rotate_left
      · intro w'
        go_simp
        with_reducible rfl
      rotate_left
      · simp only [Act.put, List.setIfInBounds_toArray, List.set_cons_zero, List.set_cons_succ, xB1, xB2]
        rfl
      have SZ := Aside0.mk (Nat.le_refl wd.heap.size)
      refine join_ (σ := Value × Value × Value) 4 #[true, true, true, true, true, true, true, false, false, false, false] (fun sv => [(34, sv.1), (36, sv.2.1), (37, sv.2.2)]) (fun sv W' => LpJ w W' g w.heap.size be ba g T1 s.size at_ (.slice AL acc.length cL) acc a1 sv) ?cont ?go
      case go =>
        intro hcont
        have HC := Aside0.mk hcont
        clear hcont
        refine two_ (i := 3) (j := 5) (Ni := some 34) (Nj := some 36) #[true, true, true, true, true, false, false, false, false, false, false] #[true, true, true, false, true, true, false, false, false, false, false] rfl rfl rfl rfl (by kernel_rfl) (by decide) (by decide) ?_ ?_
        · intro K hK
          obtain ⟨w0_3, hs_3, hp_3⟩ := ED.out.ps
          have HS_3 := Aside0.mk hs_3
          have HP_3 := Aside0.mk hp_3
          clear hs_3 hp_3
          refine xD5 Tryd.func19 (by kernel_rfl) rfl #[.pointer (some ⟨g, 0, none⟩)] (by rfl) rfl rfl (by first | rfl | (simp [Act.eval]; done) | (go_simp; done)) (R := PRes (α := S25) w0_3 wd g s.size (xD8 wd) (.ok (a1, T1))) (xEw kk g _ _ _ w0_3 wd HP_3.out HX.out) ?_
          rintro e w2 ⟨⟨v, rfl, hN⟩, h2⟩
          have HV := Aside0.mk hN
          have HP2_3 := Aside0.mk h2
          clear hN h2
          refine .inr ⟨_, rfl, ?_⟩
          have E2 := Aside0.mk (ED.out.call HS_3.out HP_3.out HP2_3.out)
          have SZ := Aside0.mk HP2_3.out.kb.1
          try clear hHeld
          refine hK.out _ _ ((xA4 E2.out.b.nb 4).trans rfl) (fun hHeld => ?_)
          clear hK K
          refine xCp (a' := ?_) ?_ ?_
          rotate_left
          · show Act.put _ (some 34) _ = _
            simp only [Act.put, List.setIfInBounds_toArray, List.set_cons_zero, List.set_cons_succ, xB1, xB2]
            rfl
          refine one_ (i := 5) (N := some 36) #[true, true, true, true, true, true, false, false, false, false, false] rfl rfl (by kernel_rfl) (by decide) (fun K hK => ?_)
          refine Kd.N_lit_step k25 (w0 := w2) w2.heap.size 25 (by rfl) (N' := 36) rfl (xs := [z25]) (inner := [.string z25.f0, .string z25.f1, .int .i64 z25.f2, .int .i64 z25.f3, .slice none z25.f4.length 0]) (ok := (fun k => wd.heap.size ≤ k)) (okp := (fun k => wd.heap.size ≤ k)) ?hr ((Reps.none _ _).snoc (xCn (base := 0) (Kd.N_nil _ _ _ _ _)) rfl) (fun _ hk => hk) ?hf (Below.refl _ _) (Nat.le_refl _) (by show 1 ≤ 9223372036854775807; decide) ?_
          case hr => first | (go_simp; done) | (go_simp; rfl)
          case hf => exact SZ.out
          intro v7 w7 hN7 hb7 hg7 hat7
          obtain ⟨A7, c7, rfl⟩ := Kd.N_slice hN7
          have E7 := Aside0.mk (E2.out.below hb7)
          have HN7 := Aside0.mk hN7
          have SZ7 := Aside0.mk hb7.size
          have HBB7 := Aside0.mk hb7
          clear hN7 hb7 hg7 hat7
          try clear hHeld
          refine hK.out _ _ ((xA4 E7.out.b.nb 4).trans rfl) (fun hHeld => ?_)
          clear hK K
          refine xCp (a' := ?_) ?_ ?_
          rotate_left
          · show Act.put _ (some 36) _ = _
            simp only [Act.put, List.setIfInBounds_toArray, List.set_cons_zero, List.set_cons_succ, xB1, xB2]
            rfl
          refine one_ (i := 6) (N := some 37) #[true, true, true, true, true, true, true, false, false, false, false] rfl rfl (by kernel_rfl) (by decide) (fun K hK => ?_)
          refine Kd.N_append_rows_step k25 (w0 := w7) w.heap.size (by rfl) (.tmp 32) (.tmp 36) 23 25 (.agg #[.string (⟨#[]⟩ : ByteArray), .string (⟨#[]⟩ : ByteArray), .int .i64 0, .int .i64 0, .slice none 0 0]) 72 rfl Tryd.underlying23 xDh rfl (by decide) (by decide) (.slice AL acc.length cL) acc [z25] A7 1 c7 (fun k => g ≤ k ∧ k ≠ g) (fun k => wd.heap.size ≤ k) rfl rfl E7.out.row (Kd.N_F HN7.out) ?hokp ?hfresh (Below.refl _ _) ?hbase (by first | omega | (simp; done) | (simp; omega)) ?_
          case hokp => intro k hk; have h1 := HG0.out; exact ⟨⟨by have := E7.out.ge; omega, by omega⟩, fun e => by have := HB0.out k e.symm; omega⟩
          case hfresh => intro k hk; have h1 := E7.out.lt; have := E7.out.ge; exact ⟨by omega, by omega⟩
          case hbase => exact E7.out.b.bel.size
          intro v8 w8 hN8 hb8 hg8 hat8
          have HJ := Aside0.mk (LpJ.first (v36 := .slice A7 1 c7) E7.out (Kd.N_below HV.out HBB7.out) HB0.out HG0.out hg8 hN8 hat8)
          have hx4 := (xA4 (E7.out.b.grown hg8 (fun k hk => (E7.out.row.1 k hk).1)).nb 4).trans rfl
          clear hN8 hb8 hg8 hat8
          try clear hHeld
          refine hK.out _ _ hx4 (fun hHeld => ?_)
          clear hK K
          refine xCp (a' := ?_) ?_ ?_
          rotate_left
          · show Act.put _ (some 37) _ = _
            simp only [Act.put, List.setIfInBounds_toArray, List.set_cons_zero, List.set_cons_succ, xB1, xB2]
            rfl
          exact HC.out _ w8 HJ.out
        · intro K hK
          refine Kd.N_lit_step k25 (w0 := wd) wd.heap.size 25 (by rfl) (N' := 36) rfl (xs := [z25]) (inner := [.string z25.f0, .string z25.f1, .int .i64 z25.f2, .int .i64 z25.f3, .slice none z25.f4.length 0]) (ok := (fun k => wd.heap.size ≤ k)) (okp := (fun k => wd.heap.size ≤ k)) ?hr ((Reps.none _ _).snoc (xCn (base := 0) (Kd.N_nil _ _ _ _ _)) rfl) (fun _ hk => hk) ?hf (Below.refl _ _) (Nat.le_refl _) (by show 1 ≤ 9223372036854775807; decide) ?_
          case hr => first | (go_simp; done) | (go_simp; rfl)
          case hf => exact SZ.out
          intro v7 w7 hN7 hb7 hg7 hat7
          obtain ⟨A7, c7, rfl⟩ := Kd.N_slice hN7
          have E7 := Aside0.mk (ED.out.below hb7)
          have HN7 := Aside0.mk hN7
          have SZ7 := Aside0.mk hb7.size
          have HBB7 := Aside0.mk hb7
          clear hN7 hb7 hg7 hat7
          try clear hHeld
          refine hK.out _ _ ((xA4 E7.out.b.nb 4).trans rfl) (fun hHeld => ?_)
          clear hK K
          refine xCp (a' := ?_) ?_ ?_
          rotate_left
          · show Act.put _ (some 36) _ = _
            simp only [Act.put, List.setIfInBounds_toArray, List.set_cons_zero, List.set_cons_succ, xB1, xB2]
            rfl
          refine one_ (i := 3) (N := some 34) #[true, true, true, true, true, true, false, false, false, false, false] rfl rfl (by kernel_rfl) (by decide) (fun K hK => ?_)
          obtain ⟨w0_4, hs_4, hp_4⟩ := E7.out.ps
          have HS_4 := Aside0.mk hs_4
          have HP_4 := Aside0.mk hp_4
          clear hs_4 hp_4
          refine xD5 Tryd.func19 (by kernel_rfl) rfl #[.pointer (some ⟨g, 0, none⟩)] (by rfl) rfl rfl (by first | rfl | (simp [Act.eval]; done) | (go_simp; done)) (R := PRes (α := S25) w0_4 w7 g s.size (xD8 w7) (.ok (a1, T1))) (xEw kk g _ _ _ w0_4 w7 HP_4.out HX.out) ?_
          rintro e w2 ⟨⟨v, rfl, hN⟩, h2⟩
          have HV := Aside0.mk hN
          have HP2_4 := Aside0.mk h2
          clear hN h2
          refine .inr ⟨_, rfl, ?_⟩
          have E2 := Aside0.mk (E7.out.call HS_4.out HP_4.out HP2_4.out)
          have SZ2 := Aside0.mk HP2_4.out.kb.1
          have HN7' := HN7.out
          have HN7 := Aside0.mk (Kd.N_keep (g := g) HN7' HP2_4.out.kb (fun k hk => by have h1 := HG0.out; omega))
          clear HN7'
          try clear hHeld
          refine hK.out _ _ ((xA4 E2.out.b.nb 4).trans rfl) (fun hHeld => ?_)
          clear hK K
          refine xCp (a' := ?_) ?_ ?_
          rotate_left
          · show Act.put _ (some 34) _ = _
            simp only [Act.put, List.setIfInBounds_toArray, List.set_cons_zero, List.set_cons_succ, xB1, xB2]
            rfl
          refine one_ (i := 6) (N := some 37) #[true, true, true, true, true, true, true, false, false, false, false] rfl rfl (by kernel_rfl) (by decide) (fun K hK => ?_)
          refine Kd.N_append_rows_step k25 (w0 := w2) w.heap.size (by rfl) (.tmp 32) (.tmp 36) 23 25 (.agg #[.string (⟨#[]⟩ : ByteArray), .string (⟨#[]⟩ : ByteArray), .int .i64 0, .int .i64 0, .slice none 0 0]) 72 rfl Tryd.underlying23 xDh rfl (by decide) (by decide) (.slice AL acc.length cL) acc [z25] A7 1 c7 (fun k => g ≤ k ∧ k ≠ g) (fun k => wd.heap.size ≤ k) rfl rfl E2.out.row (Kd.N_F HN7.out) ?hokp ?hfresh (Below.refl _ _) ?hbase (by first | omega | (simp; done) | (simp; omega)) ?_
          case hokp => intro k hk; have h1 := HG0.out; exact ⟨⟨by have := E2.out.ge; omega, by omega⟩, fun e => by have := HB0.out k e.symm; omega⟩
          case hfresh => intro k hk; have h1 := E2.out.lt; have := E2.out.ge; exact ⟨by omega, by omega⟩
          case hbase => exact E2.out.b.bel.size
          intro v8 w8 hN8 hb8 hg8 hat8
          have HJ := Aside0.mk (LpJ.first (v36 := .slice A7 1 c7) E2.out (Kd.N_mono HV.out (fun k hk => Nat.le_trans SZ7.out hk)) HB0.out HG0.out hg8 hN8 hat8)
          have hx4 := (xA4 (E2.out.b.grown hg8 (fun k hk => (E2.out.row.1 k hk).1)).nb 4).trans rfl
          clear hN8 hb8 hg8 hat8
          try clear hHeld
          refine hK.out _ _ hx4 (fun hHeld => ?_)
          clear hK K
          refine xCp (a' := ?_) ?_ ?_
          rotate_left
          · show Act.put _ (some 37) _ = _
            simp only [Act.put, List.setIfInBounds_toArray, List.set_cons_zero, List.set_cons_succ, xB1, xB2]
            rfl
          exact HC.out _ w8 HJ.out
      case cont =>
        rintro ⟨va, vb, vc⟩ w3 hJ
        obtain ⟨v, gR, c8, base, hva, hvc, hA, hN⟩ := hJ
        simp only at hva hvc
        subst hva
        subst hvc
        have HA3 := Aside0.mk hA
        have HN3 := Aside0.mk hN
        clear hA hN hHeld ED x4 SZ
        refine xCp (a' := ?_) ?_ ?_
        rotate_left
        · simp only [xIw, Act.put, List.setIfInBounds_toArray, List.set_cons_zero, List.set_cons_succ]
          rfl
        have hacc : (0 : Int) ≤ (acc.length : Int) := by omega
        have hacc2 : (acc.length : Int) < ((acc.length + 1 : Nat) : Int) := by omega
        have hacc3 : (acc.length : Int) < (acc.length : Int) + 1 := by omega
        refine xC1 (i := 7) (N := some 38) (v := ?_) (a' := ?_) #[true, true, true, true, true, true, true, true, false, false, false] rfl rfl (by kernel_rfl) (fun _ _ _ h => h) (Or.inl ⟨by rfl, ?_⟩) ?_ ?_
        rotate_left
        · intro w'
          go_simp
          with_reducible rfl
        rotate_left
        · simp only [Act.put, List.setIfInBounds_toArray, List.set_cons_zero, List.set_cons_succ, xB1, xB2]
          rfl
        refine xC1 (i := 9) (N := some 39) (v := ?_) (a' := ?_) #[true, true, true, true, true, true, true, true, false, true, false] rfl rfl (by kernel_rfl) (fun _ _ _ h => h) (Or.inl ⟨by rfl, ?_⟩) ?_ ?_
        rotate_left
        · intro w'
          go_simp
          with_reducible rfl
        rotate_left
        · simp only [Act.put, List.setIfInBounds_toArray, List.set_cons_zero, List.set_cons_succ, xB1, xB2]
          rfl
        obtain ⟨Av, cv, rfl⟩ := Kd.N_slice HN3.out
        clear hacc hacc2 hacc3
        refine twoE_ (i := 8) (j := 10) #[true, true, true, true, true, true, true, true, true, true, false] #[true, true, true, true, true, true, true, true, false, true, true] rfl rfl (by kernel_rfl) (by decide) (by decide) (by decide) ?_ ?_
        · skip
          obtain ⟨cz, hcz, _, hccz, _⟩ := Kd.N_elem HA3.out.row z25 (acc.length : Int) (by omega) (by omega)
          refine Kd.N_store k25 (w0 := w3) w.heap.size rfl rfl 25 (.tmp 38) (.tmp 34) rfl 25 (g := gR) (n := acc.length + 1) (cap := c8) (o' := acc.length * 5) (acc.length : Int) 0 (acc ++ [z25]) a1 (.agg ([.string a1.f0, .string a1.f1, .int .i64 a1.f2, .int .i64 a1.f3, .slice Av a1.f4.length cv] : List Value).toArray) [.string a1.f0, .string a1.f1, .int .i64 a1.f2, .int .i64 a1.f3, .slice Av a1.f4.length cv] cz (fun k => g ≤ k ∧ k ≠ g) (fun k => (g ≤ k ∧ k ≠ g) ∧ k ≠ gR) rfl ?hoff rfl rfl ?ht ?h1 HA3.out.row (by omega) (by omega) hcz hccz ?hj ?hM (fun _ hk => hk) (Below.refl _ _) ?_
          case hoff => show acc.length * 5 = (acc.length : Int).toNat * 5 + 0; simp
          case ht => exact xIn
          case h1 => intro u hu; simp only [List.mem_cons, List.not_mem_nil, or_false] at hu; rcases hu with rfl | rfl | rfl | rfl | rfl <;> rfl
          case hj => exact Nat.le_refl 5
          case hM =>
            rw [List.take_zero, List.nil_append, List.drop_eq_nil_of_le (by rw [hcz]; exact Nat.le_refl 5), List.append_nil]
            exact xCn HN3.out
          intro w4 hr8 hb8 hg8
          rw [Int.toNat_natCast, xK1] at hr8
          clear hcz hccz
          have E4 := Aside0.mk (HA3.out.grown (row := some gR) (by simp [Value.ownBlock]) hg8 hr8)
          clear hr8 hb8 hg8
          change xB8 _ _ _ _ _ _ _ _ _ _
          have x4 := (xA4 E4.out.b.nb 4).trans rfl
          have f4 := xA5 E4.out.b.nb 4
          refine xG0 (i := 10) (N := none) #[true, true, true, true, true, true, true, true, true, true, true] rfl rfl (by kernel_rfl) (by decide) (fun K hK => ?_)
          refine xF3 (w1 := ?_) (by rfl) rfl ?_ ?_
          rotate_left
          · go_simp
            rfl
          refine hK.out _ _ ?_
          clear hK K
          refine xFe (by kernel_rfl) ?_
          clear x4 f4
          have E9 := Aside0.mk E4.out.setL
          generalize World.setCell w4 _ _ = w9 at *
          refine NoPanic.normal ?_
          go_wp2
          go_roundg kk
          case rel => exact ⟨kk, _, _, _, Nat.le_refl _, E9, HH⟩
          case measure => omega
        · skip
          have x4 := (xA4 HA3.out.b.nb 4).trans rfl
          have f4 := xA5 HA3.out.b.nb 4
          refine wpList_plain rfl (fun K hK => ?_)
          go_simp
          refine hK _ _ ?_
          clear hK K x4 f4
          have E4 := Aside0.mk HA3.out.setL
          have HN4 := Aside0.mk (Kd.N_far (p := ⟨w.heap.size, 4, none⟩) HN3.out (fun k hk => by have := HA3.out.b.n1; have := hk.1.1; show k ≠ w.heap.size; omega) (.slice (some ⟨gR, 0, none⟩) (acc.length + 1) c8))
          change xB8 _ _ _ _ _ _ _ _ _ _
          generalize World.setCell w3 _ _ = w4 at *
          refine lastW_ (i := 8) #[true, true, true, true, true, true, true, true, true, true, true] rfl (by kernel_rfl) (by decide) ?_
          obtain ⟨cz, hcz, _, hccz, _⟩ := Kd.N_elem E4.out.row z25 (acc.length : Int) (by omega) (by omega)
          refine Kd.N_store k25 (w0 := w4) w.heap.size rfl rfl 25 (.tmp 38) (.tmp 34) rfl 25 (g := gR) (n := acc.length + 1) (cap := c8) (o' := acc.length * 5) (acc.length : Int) 0 (acc ++ [z25]) a1 (.agg ([.string a1.f0, .string a1.f1, .int .i64 a1.f2, .int .i64 a1.f3, .slice Av a1.f4.length cv] : List Value).toArray) [.string a1.f0, .string a1.f1, .int .i64 a1.f2, .int .i64 a1.f3, .slice Av a1.f4.length cv] cz (fun k => g ≤ k ∧ k ≠ g) (fun k => (g ≤ k ∧ k ≠ g) ∧ k ≠ gR) rfl ?hoff rfl rfl ?ht ?h1 E4.out.row (by omega) (by omega) hcz hccz ?hj ?hM (fun _ hk => hk) (Below.refl _ _) ?_
          case hoff => show acc.length * 5 = (acc.length : Int).toNat * 5 + 0; simp
          case ht => exact xIn
          case h1 => intro u hu; simp only [List.mem_cons, List.not_mem_nil, or_false] at hu; rcases hu with rfl | rfl | rfl | rfl | rfl <;> rfl
          case hj => exact Nat.le_refl 5
          case hM =>
            rw [List.take_zero, List.nil_append, List.drop_eq_nil_of_le (by rw [hcz]; exact Nat.le_refl 5), List.append_nil]
            exact xCn HN4.out
          intro w9 hr8 hb8 hg8
          rw [Int.toNat_natCast, xK1] at hr8
          clear hcz hccz
          have E9 := Aside0.mk (E4.out.stored hg8 hr8)
          clear hr8 hb8 hg8
          change xB8 _ _ _ _ _ _ _ _ _ _
          refine xFe (by kernel_rfl) ?_
          refine NoPanic.normal ?_
          go_wp2
          go_roundg kk
          case rel => exact ⟨kk, _, _, _, Nat.le_refl _, E9, HH⟩
          case measure => omega

/-! strings.Builder's methods at this program's numbers (its copyCheck lacks the panic's text, so the shelf's layings do not fit) -/
theorem xGh : (Tryd.prog.info? 52).map (·.size) = some 2 := by kernel_rfl
theorem xIz : liesAt Tryd.prog Tryd.prog.depth 52 (2 / Tryd.prog.cellsOf 52) 0 52 1 = true := by kernel_rfl
theorem xMi : (Tryd.prog.info? 5).map (fun i => (i.zero, i.size, i.bytes)) = some (some (.int .u8 0), 1, 1) := by kernel_rfl
set_option maxHeartbeats 1000000 in
set_option maxRecDepth 100000 in
theorem xHg (b : Nat) (w : World) (h0 : w.cell? ⟨b, 0, none⟩ = some (.pointer (some ⟨b, 0, none⟩))) :
  Calls Tryd.prog 79 #[.pointer (some ⟨b, 0, none⟩)] w fun e w' => e = .returned (.tuple #[]) ∧ w' = w := by
 obtain ⟨j, hj, _⟩ := Option.map_eq_some_iff.1 xGh
 have hu52 := Tryd.underlying52
 have hu49 := Tryd.underlying49
 go_enter Tryd.func79, Tryd.ntmps79
 go_wp2
 rw [Lib.run_neq_ptr_same w _ hu49 hj]
 go_wp2
 go_end0
 exact ⟨rfl, rfl⟩
set_option maxHeartbeats 1000000 in
set_option maxRecDepth 100000 in
theorem xH9 (b : Nat) (w : World) (h0 : w.cell? ⟨b, 0, none⟩ = some (.pointer none)) (hsh : w.shape? b = some (52, 2)) (hfz : w.frozen? ⟨b, 0, none⟩ = false) :
  Calls Tryd.prog 79 #[.pointer (some ⟨b, 0, none⟩)] w fun e w' => e = .returned (.tuple #[]) ∧ w' = w.setCell ⟨b, 0, none⟩ (.pointer (some ⟨b, 0, none⟩)) := by
 obtain ⟨j, hj, hjs⟩ := Option.map_eq_some_iff.1 xGh
 have hu52 := Tryd.underlying52
 have hu49 := Tryd.underlying49
 have hu86 := Tryd.underlying86
 go_enter Tryd.func79, Tryd.ntmps79
 go_wp2
 rw [Lib.run_to_unsafe w ⟨b, 0, none⟩ hu49 hu86 hj (by rw [hjs]; decide) hsh (Nat.zero_lt_succ 1)]
 simp only [Result.andThen]
 rw [Oper.upon_value]
 go_wp2
 rw [run_callFunc_extern Tryd.func88 (by kernel_rfl) (by kernel_rfl) (by kernel_rfl) (e := Extern.AbiNoEscape.same) (by kernel_rfl)]
 rw [Lib.run_noEscape]
 simp only [Result.andThen]
 rw [Oper.upon_value]
 go_wp2
 rw [Lib.run_from_unsafe w ⟨b, 0, none⟩ hu86 hu49 hj hsh xIz]
 simp only [Result.andThen]
 rw [Oper.upon_value]
 go_wp2
 go_end0
 exact ⟨rfl, rfl⟩
theorem xIb (B b : Nat) (bs : List Value) (w : World) (h : Lib.IsBuilderF 52 5 B b bs w) :
  Calls Tryd.prog 79 #[.pointer (some ⟨b, 0, none⟩)] w fun e w' => e = .returned (.tuple #[]) ∧ (Lib.BuilderAtF 52 5 B b (.pointer (some ⟨b, 0, none⟩)) bs w' ∧ Below B w w' ∧ Lib.OthersKept 5 (some b) w w') := by
 rcases h with h | h
 ·refine (xH9 b w h.cell0 h.shape h.frozen0).mono ?_
  rintro e w' ⟨rfl, rfl⟩
  exact ⟨rfl, h.used _, (Below.refl B w).setCell (p := ⟨b, 0, none⟩) h.1 _, (Lib.OthersKept.refl _ _ w).setCell ⟨b, 0, none⟩ rfl _⟩
 ·refine (xHg b w h.cell0).mono ?_
  rintro e w' ⟨rfl, rfl⟩
  exact ⟨rfl, h, Below.refl B _, Lib.OthersKept.refl _ _ _⟩
set_option maxHeartbeats 2000000 in
set_option maxRecDepth 100000 in
theorem xJc (B b : Nat) (bs : List Value) (s : ByteArray) (w : World) (h : Lib.IsBuilderF 52 5 B b bs w) (hlen : bs.length + s.size ≤ 140737488355328) (hBw : B ≤ w.heap.size) :
  Calls Tryd.prog 48 #[.pointer (some ⟨b, 0, none⟩), .string s] w fun e w' => e = .returned (.tuple #[.int .i64 s.size, .nilIface]) ∧ (Lib.BuilderAtF 52 5 B b (.pointer (some ⟨b, 0, none⟩)) (bs ++ Lib.strCells s) w' ∧ Below B w w' ∧ Lib.OthersKept 5 (some b) w w') := by
 obtain ⟨i0, hi, hz0, hz1, hz2⟩ := info_parts xMi
 have hu52 := Tryd.underlying52
 have hu49 := Tryd.underlying49
 have hu50 := Tryd.underlying50
 have hu9 := Tryd.underlying9
 go_enter Tryd.func48, Tryd.ntmps48
 go_wp2_with (go_at_call 79; refine (xIb B b bs _ h).mono ?_)
 rintro e w1 ⟨rfl, h1, hb1, hk1⟩
 obtain ⟨hB, v, hbk, hown, hne⟩ := h1
 have c0 : w1.cell? ⟨b, 0, none⟩ = some (.pointer (some ⟨b, 0, none⟩)) := by rw [Lib.cell_of_heap hbk]; rfl
 have c1 : w1.cell? ⟨b, 1, none⟩ = some v := by rw [Lib.cell_of_heap hbk]; rfl
 go_wp2_with (at_builtin; refine Lib.wpList_append_own_stringF _ rfl _ _ 50 9 rfl B 5 i0 hu50 hu9 hi hz0 hz1 hz2 _ _ _ rfl hown s rfl ?c3 ?c4 ?c5 ?_)
 case c3 => unfold maxLen; omega
 case c4 => omega
 case c5 => have := hb1.size; omega
 intro v' w2 hown' hgrow _
 have hlt : b < w1.heap.size := by
  rcases Nat.lt_or_ge b w1.heap.size with h' | h'
  ·exact h'
  ·simp [Array.getElem?_eq_none h'] at hbk
 have hb2 : w2.heap[b]? = some (.cells #[.pointer (some ⟨b, 0, none⟩), v] 52 (0, 0)) := by
  rw [hgrow.block b hlt (fun e => hne e.symm)]
  exact hbk
 have d0 : w2.cell? ⟨b, 0, none⟩ = some (.pointer (some ⟨b, 0, none⟩)) := by rw [Lib.cell_of_heap hb2]; rfl
 have d1 : w2.cell? ⟨b, 1, none⟩ = some v := by rw [Lib.cell_of_heap hb2]; rfl
 have f1 : w2.frozen? ⟨b, 1, none⟩ = false := Lib.frozen_of_heap hb2 1
 obtain ⟨ao, n', cap, rfl⟩ : ∃ ao n' cap, v' = .slice ao n' cap := by
  rcases hown'.2 with ⟨hv, _⟩ | ⟨g, cap, cur, fz, hv, _⟩
  ·exact ⟨_, _, _, hv⟩
  ·exact ⟨_, _, _, hv⟩
 go_wp2
 go_ret2
 refine ⟨rfl, ?_, ?_, (hk1.grown hgrow (Lib.ownsRowF_kind hown)).setCell ⟨b, 1, none⟩ rfl _⟩
 ·exact Lib.BuilderAtF.put (T := 52) (e := 5) hB hb2 (bs' := bs ++ Lib.strCells s) (by simpa [Lib.strCells_length] using hown') (by decide)
 ·exact (hb1.grown hgrow (by have := hb1.size; omega) (fun k hk => (hown.lt k hk).1)).setCell (p := ⟨b, 1, none⟩) hB _
/-- A builder that holds l. -/
def Bld (B b : Nat) (l : List UInt8) (w : World) : Prop := Lib.IsBuilderF 52 5 B b (Lib.byteCells l) w
/-- What was kept: all below B, and all that is neither the builder nor a row of bytes. -/
def Fr (B b : Nat) (w w' : World) : Prop := Below B w w' ∧ Lib.OthersKept 5 (some b) w w'
theorem Fr.refl (B b : Nat) (w : World) : Fr B b w w := ⟨Below.refl _ _, Lib.OthersKept.refl _ _ _⟩
theorem Fr.trans {B b : Nat} {w w1 w2 : World} (h : Fr B b w w1) (k : Fr B b w1 w2) : Fr B b w w2 := ⟨h.1.trans k.1, h.2.trans k.2⟩
theorem Fr.blk {B b g t : Nat} {cs : Array Value} {w w1 : World} (h : Fr B b w w1) (hb : w.heap[g]? = some (.cells cs t (0, 0))) (hg : g ≠ b) (ht : t ≠ 5) : w1.heap[g]? = some (.cells cs t (0, 0)) :=
 h.2 g _ hb (by simpa using hg) (by intro c fz e; injection e with _ e _; exact ht e)
theorem Fr.alloc {B b : Nat} {w w1 : World} (h : Fr B b w w1) (hB : B ≤ w1.heap.size) (o : Obj) : Fr B b w (w1.alloc o) := ⟨h.1.alloc hB o, h.2.alloc o⟩
theorem xGn (l m : List UInt8) : Lib.byteCells (l ++ m) = Lib.byteCells l ++ Lib.byteCells m := by unfold Lib.byteCells; rw [List.map_append]
theorem Bld.le {B b : Nat} {l : List UInt8} {w : World} (h : Bld B b l w) : B ≤ b := by
 rcases h with h | h <;> exact h.1
theorem Bld.lt {B b : Nat} {l : List UInt8} {w : World} (h : Bld B b l w) : b < w.heap.size := by
 rcases h with h | h <;> exact h.lt
theorem Bld.typ {B b : Nat} {l : List UInt8} {w : World} (h : Bld B b l w) : ∃ cs, w.heap[b]? = some (.cells cs 52 (0, 0)) := by
 rcases h with ⟨_, v, h, _⟩ | ⟨_, v, h, _⟩ <;> exact ⟨_, h⟩
def WrP (B b : Nat) (l : List UInt8) (w : World) (e : Ending) (w' : World) : Prop := e = .returned (.tuple #[]) ∧ Bld B b l w' ∧ Fr B b w w'
theorem xGg (B b : Nat) (l : List UInt8) (s : ByteArray) (w : World) (h : Bld B b l w) (hlen : l.length + s.size ≤ 1000000000) :
  Calls Tryd.prog 48 #[.pointer (some ⟨b, 0, none⟩), .string s] w fun e w' => e = .returned (.tuple #[.int .i64 s.size, .nilIface]) ∧ Bld B b (l ++ s.data.toList) w' ∧ Fr B b w w' := by
 refine (xJc B b _ s w h (by rw [Lib.byteCells_length]; omega) (by have := h.le; have := h.lt; omega)).mono ?_
 rintro e w' ⟨rfl, h1, h2, h3⟩
 refine ⟨rfl, ?_, h2, h3⟩
 unfold Bld
 rw [xGn]
 exact .inr h1
/-- What strings hold, one behind the other. -/
def catB (ss : List ByteArray) : List UInt8 := (ss.map fun s => s.data.toList).flatten
theorem xMq (ss : List ByteArray) (k : Nat) (h : k < ss.length) : catB (ss.take (k + 1)) = catB (ss.take k) ++ ss[k].data.toList := by
 unfold catB
 rw [List.take_succ_eq_append_getElem h, List.map_append, List.flatten_append]
 simp
theorem catB_le (ss : List ByteArray) (k : Nat) : (catB (ss.take k)).length ≤ (catB ss).length := by
 have h : catB ss = catB (ss.take k) ++ catB (ss.drop k) := by
  unfold catB
  rw [← List.flatten_append, ← List.map_append, List.take_append_drop]
 rw [h, List.length_append]
 omega
/-- Where put stands. -/
structure PuS (B b gs p : Nat) (ss : List ByteArray) (l : List UInt8) (w W : World) : Prop where
 bld : Bld B b l W
 fr : Fr B b w W
 s : W.heap[gs]? = some (.cells (ss.map Value.string).toArray 9 (0, 0))
 p : W.heap[p]? = some (.cells #[.pointer (some ⟨b, 0, none⟩)] 49 (0, 0))
set_option maxHeartbeats 4000000 in
set_option maxRecDepth 100000 in
theorem xIv (B b gs p : Nat) (ss : List ByteArray) (l : List UInt8) (w : World) (h : PuS B b gs p ss l w w) (hlen : l.length + (catB ss).length ≤ 1000000000) (hss : ss.length ≤ 100) :
  Calls Tryd.prog 50 #[.slice (some ⟨gs, 0, none⟩) ss.length ss.length, .pointer (some ⟨p, 0, none⟩)] w (WrP B b (l ++ catB ss) w) := by
 have H := Aside0.mk h
 have HL := Aside0.mk hlen
 clear h hlen
 go_enter Tryd.func50, Tryd.ntmps50
 go_wp2
 go_loopw [7] (fun i wr => ∃ k : Nat, k ≤ ss.length ∧ i = .int .i64 k ∧ Aside0 (PuS B b gs p ss (l ++ catB (ss.take k)) w wr)) (fun i _ => ss.length - (intOf i).toNat)
 case atStart => exact ⟨0, Nat.zero_le _, rfl, ⟨by simpa [catB] using H.out⟩⟩
 case round =>
  obtain ⟨k, hk, rfl, HR⟩ := hrel
  by_cases hlt : k < ss.length
  ·have hs0 : wr.cell? ⟨gs, k, none⟩ = some (.string ss[k]) := by rw [xA4 HR.out.s k]; simp [hlt]
   have hp0 : wr.cell? ⟨p, 0, none⟩ = some (.pointer (some ⟨b, 0, none⟩)) := (xA4 HR.out.p 0).trans rfl
   have HT := Aside0.mk (xMq ss k hlt)
   have HLE := Aside0.mk (catB_le ss (k + 1))
   go_wp2_with (go_at_call 48; (with_reducible refine (xGg B b _ _ wr HR.out.bld (by have h1 := HLE.out; rw [HT.out] at h1; have h2 := HL.out; simp only [List.length_append] at h1 ⊢; have h3 : (ss[k]).size = (ss[k]).data.toList.length := rfl; omega)).mono ?_); rintro e w1 ⟨rfl, h1, h2⟩; have H1 := Aside0.mk h1; have H2 := Aside0.mk h2; clear h1 h2)
   go_roundw
   case rel =>
    have hty := HR.out.bld.typ
    refine ⟨k + 1, by omega, by go_num, ⟨⟨?_, HR.out.fr.trans H2.out, H2.out.blk HR.out.s ?_ (by decide), H2.out.blk HR.out.p ?_ (by decide)⟩⟩⟩
    ·rw [HT.out, ← List.append_assoc]; exact H1.out
    ·obtain ⟨cs, hc⟩ := hty; exact xF7 HR.out.s hc (by decide)
    ·obtain ⟨cs, hc⟩ := hty; exact xF7 HR.out.p hc (by decide)
   case measure => simp [intOf]; omega
  ·have : k = ss.length := by omega
   subst this
   go_wp2
   refine bodyPost_end (results_none rfl _ _ _) rfl ⟨rfl, ?_, HR.out.fr⟩
   have := HR.out.bld
   rwa [List.take_length] at this

/-! a tree's text -/
def catW (f : S25 → Option (List UInt8)) : List S25 → Option (List UInt8)
 | [] => some []
 | x :: r => (f x).bind fun t => (catW f r).bind fun u => some (t ++ u)
def sepW (f : S25 → Option (List UInt8)) : Bool → List S25 → Option (List UInt8)
 | _, [] => some []
 | first, x :: r => (f x).bind fun t => (sepW f false r).bind fun u => some ((if first = true then [] else [44, 32]) ++ t ++ u)
def headW (f : S25 → Option (List UInt8)) : List S25 → Option (List UInt8)
 | [] => none
 | x :: _ => f x
def xE3 : Nat → S25 → Option (List UInt8)
 | 0, _ => none
 | k + 1, n =>
  if n.f4.length ≤ 1000000 ∧ -9223372036854775808 ≤ n.f2 ∧ n.f2 ≤ 9223372036854775807 then
   if n.f0.toList = ([117, 115, 101] : List UInt8) ∨ n.f0.toList = ([110, 97, 109, 101] : List UInt8) then (if n.f0.toList = ([117, 115, 101] : List UInt8) then some n.f1.data.toList else none)
   else if n.f0.toList = ([110, 117, 109] : List UInt8) then none
   else if n.f0.toList = ([104, 101, 120] : List UInt8) then none
   else if n.f0.toList = ([102, 105, 108, 101] : List UInt8) then catW (xE3 k) n.f4
   else if n.f0.toList = ([100, 101, 118, 105, 99, 101] : List UInt8) ∨ n.f0.toList = ([106, 111, 117, 114, 110, 97, 108] : List UInt8) then none
   else if n.f0.toList = ([107, 101, 121] : List UInt8) ∨ n.f0.toList = ([114, 111, 111, 116] : List UInt8) then none
   else if n.f0.toList = ([118, 111, 108, 117, 109, 101] : List UInt8) then (headW (xE3 k) n.f4).bind fun t => some ([118, 111, 108, 117, 109, 101, 32] ++ n.f1.data.toList ++ [32, 61, 32] ++ t ++ [59, 10])
   else if n.f0.toList = ([101, 120, 112, 111, 114, 116] : List UInt8) then none
   else (sepW (xE3 k) true n.f4).bind fun t => some (n.f0.data.toList ++ [40] ++ t ++ [41])
  else none
/-- Where write stands: p the box of the builder's pointer, q the node's. -/
structure WrS (B b p q : Nat) (n : S25) (A : Option Addr) (c : Nat) (l : List UInt8) (w W : World) : Prop where
 bld : Bld B b l W
 fr : Fr B b w W
 pb : W.heap[p]? = some (.cells #[.pointer (some ⟨b, 0, none⟩)] 49 (0, 0))
 qb : W.heap[q]? = some (.cells #[.string n.f0, .string n.f1, .int .i64 n.f2, .int .i64 n.f3, .slice A n.f4.length c] 25 (0, 0))
theorem xH7 {B b : Nat} {w w1 : World} (h : Below w.heap.size w w1) (hB : B ≤ w.heap.size) : Fr B b w w1 :=
 ⟨h.mono hB, fun k o hk _ _ => (h.block k (xBs hk)).trans hk⟩
theorem Bld.below {B b : Nat} {l : List UInt8} {w w1 : World} (h : Bld B b l w) (hb : Below w.heap.size w w1) : Bld B b l w1 := by
 have key : ∀ p, Lib.BuilderAtF 52 5 B b p (Lib.byteCells l) w → Lib.BuilderAtF 52 5 B b p (Lib.byteCells l) w1 := by
  rintro p ⟨hB, v, hbk, hown, hne⟩
  refine ⟨hB, v, xAx hbk hb, ?_, hne⟩
  exact hown.kept (row := none) ⟨hb.os, hb.tape, hb.output, hb.size, fun k hk _ => hb.block k hk⟩ (by by_cases h : v.ownBlock = none; exact .inl h; exact .inr h)
 exact h.elim (fun x => .inl (key _ x)) (fun x => .inr (key _ x))
section
variable {B b p q : Nat} {n : S25} {A : Option Addr} {c : Nat} {l l' : List UInt8} {w W W1 : World}
theorem WrS.ge (h : WrS B b p q n A c l w W) : B ≤ W.heap.size := by have := h.bld.le; have := h.bld.lt; omega
theorem WrS.call (h : WrS B b p q n A c l w W) (h1 : Bld B b l' W1) (h2 : Fr B b W W1) : WrS B b p q n A c l' w W1 := by
 obtain ⟨cs, hc⟩ := h.bld.typ
 exact ⟨h1, h.fr.trans h2, h2.blk h.pb (xF7 h.pb hc (by decide)) (by decide), h2.blk h.qb (xF7 h.qb hc (by decide)) (by decide)⟩
theorem WrS.below (h : WrS B b p q n A c l w W) (hb : Below W.heap.size W W1) : WrS B b p q n A c l w W1 := h.call (h.bld.below hb) (xH7 hb h.ge)
theorem WrS.alloc (h : WrS B b p q n A c l w W) (o : Obj) : WrS B b p q n A c l w (W.alloc o) := h.below (xA2 (Below.refl _ _) o)
theorem WrS.drew (h : WrS B b p q n A c l w W) : WrS B b p q n A c l w W.drew := h.below (xCb (Below.refl _ _))
theorem WrS.end_ (h : WrS B b p q n A c l w W) : WrP B b l w (.returned (.tuple #[])) W := ⟨rfl, h.bld, h.fr⟩
/-- A text written. -/
theorem WrS.str (h : WrS B b p q n A c l w W) (s : ByteArray) (hl : l.length + s.data.toList.length ≤ 1000000000) :
  Calls Tryd.prog 48 #[.pointer (some ⟨b, 0, none⟩), .string s] W fun e w' => e = .returned (.tuple #[.int .i64 s.size, .nilIface]) ∧ WrS B b p q n A c (l ++ s.data.toList) w w' :=
 (xGg B b l s W h.bld (by have e : s.size = s.data.toList.length := rfl; omega)).mono fun e w' ⟨he, h1, h2⟩ => ⟨he, h.call h1 h2⟩
/-- put, of a row made for it. -/
theorem WrS.put (h : WrS B b p q n A c l w W) (ss : List ByteArray) (cells : Array Value) (m : Nat) (hm : ss.length = m) (hcs : (ss.map Value.string).toArray = cells) (hl : l.length + (catB ss).length ≤ 1000000000) (hss : m ≤ 100) :
  Calls Tryd.prog 50 #[.slice (some ⟨W.heap.size, 0, none⟩) m m, .pointer (some ⟨p, 0, none⟩)] (W.alloc (.cells cells 9 (0, 0))) fun e w' => e = .returned (.tuple #[]) ∧ WrS B b p q n A c (l ++ catB ss) w w' := by
 subst hm
 subst hcs
 have h1 := h.alloc (.cells (ss.map Value.string).toArray 9 (0, 0))
 refine (xIv B b W.heap.size p ss l _ ⟨h1.bld, Fr.refl _ _ _, xBj _ _, h1.pb⟩ hl hss).mono ?_
 rintro e w' ⟨rfl, h2, h3⟩
 exact ⟨rfl, h1.call h2 h3⟩
theorem WrS.put2 (h : WrS B b p q n A c l w W) (ss : List ByteArray) (cells : Array Value) (m : Nat) (hm : ss.length = m) (hcs : (ss.map Value.string).toArray = cells) (hl : l.length + (catB ss).length ≤ 1000000000) (hss : m ≤ 100) :
  Calls Tryd.prog 50 #[.slice (some ⟨W.heap.size, 0, none⟩) m m, .pointer (some ⟨p, 0, none⟩)] (W.alloc (.cells cells 9 (0, 0))) fun e w' => e = .returned (.tuple #[]) ∧ WrS B b p q n A c (l ++ catB ss) w w' ∧ Fr B b W w' := by
 subst hm
 subst hcs
 have h1 := h.alloc (.cells (ss.map Value.string).toArray 9 (0, 0))
 refine (xIv B b W.heap.size p ss l _ ⟨h1.bld, Fr.refl _ _ _, xBj _ _, h1.pb⟩ hl hss).mono ?_
 rintro e w' ⟨rfl, h2, h3⟩
 exact ⟨rfl, h1.call h2 h3, ((Fr.refl _ _ _).alloc h.ge _).trans h3⟩
end
/-- The premises of write. -/
structure WrI (w0 w : World) (b : Nat) (n : S25) (A : Option Addr) (c : Nat) (l : List UInt8) : Prop where
 bel : Below w0.heap.size w0 w
 bld : Bld w0.heap.size b l w
 hc : n.f4.length ≤ c
 hC : Kd.C k25 w0 A n.f4.length n.f4
 tab : ∀ w', Below w0.heap.size w0 w' → Lib.TabIs Tryd.prog w' "internal/strconv.uint64pow10" .u64 Lib.pow10Tab
def xCy (n : S25) (A : Option Addr) (c : Nat) : Value := .agg #[.string n.f0, .string n.f1, .int .i64 n.f2, .int .i64 n.f3, .slice A n.f4.length c]
def WrOk (k : Nat) : Prop := ∀ (w0 w : World) (b : Nat) (n : S25) (A : Option Addr) (c : Nat) (l t : List UInt8), WrI w0 w b n A c l → xE3 k n = some t → l.length + t.length ≤ 1000000000 → Calls Tryd.prog 22 #[.pointer (some ⟨b, 0, none⟩), xCy n A c] w (WrP w0.heap.size b (l ++ t) w)
/-- Both parameters boxed. -/
theorem WrI.start {w0 w : World} {b : Nat} {n : S25} {A : Option Addr} {c : Nat} {l : List UInt8} (h : WrI w0 w b n A c l) :
  WrS w0.heap.size b w.heap.size (w.heap.size + 1) n A c l w ((w.alloc (.cells #[.pointer (some ⟨b, 0, none⟩)] 49 (0, 0))).alloc (.cells #[.string n.f0, .string n.f1, .int .i64 n.f2, .int .i64 n.f3, .slice A n.f4.length c] 25 (0, 0))) := by
 have hb : Below w.heap.size w ((w.alloc (.cells #[.pointer (some ⟨b, 0, none⟩)] 49 (0, 0))).alloc (.cells #[.string n.f0, .string n.f1, .int .i64 n.f2, .int .i64 n.f3, .slice A n.f4.length c] 25 (0, 0))) := xA2 (xA2 (Below.refl _ _) _) _
 refine ⟨h.bld.below hb, xH7 hb h.bel.size, xA6 (xBj _ _) _, ?_⟩
 have := xBj (w.alloc (.cells #[.pointer (some ⟨b, 0, none⟩)] 49 (0, 0))) (.cells #[.string n.f0, .string n.f1, .int .i64 n.f2, .int .i64 n.f3, .slice A n.f4.length c] 25 (0, 0))
 rwa [World.size_alloc] at this
theorem xMn (l : List S25) (k : Nat) (h : k < l.length) : l.drop k = xAd l (k : Int) :: l.drop (k + 1) := by
 rw [List.drop_eq_getElem_cons h]
 unfold xAd
 simp [List.getD_eq_getElem?_getD, h]
section
variable {P : Program} {ops : Array Oper} {Q : Exit → Act → World → Prop}
end
theorem cat_inv {f : S25 → Option (List UInt8)} {L : List S25} {j : Nat} {u : List UInt8} (h : catW f (L.drop j) = some u) (hj : j < L.length) : ∃ tx u', f (xAd L (j : Int)) = some tx ∧ catW f (L.drop (j + 1)) = some u' ∧ u = tx ++ u' := by
 rw [xMn L j hj, catW] at h
 obtain ⟨tx, h1, h2⟩ := Option.bind_eq_some_iff.1 h
 obtain ⟨u', h3, h4⟩ := Option.bind_eq_some_iff.1 h2
 exact ⟨tx, u', h1, h3, (Option.some.inj h4).symm⟩
theorem sep_inv {f : S25 → Option (List UInt8)} {L : List S25} {fi : Bool} {j : Nat} {u : List UInt8} (h : sepW f fi (L.drop j) = some u) (hj : j < L.length) : ∃ tx u', f (xAd L (j : Int)) = some tx ∧ sepW f false (L.drop (j + 1)) = some u' ∧ u = (if fi = true then [] else [44, 32]) ++ tx ++ u' := by
 rw [xMn L j hj, sepW] at h
 obtain ⟨tx, h1, h2⟩ := Option.bind_eq_some_iff.1 h
 obtain ⟨u', h3, h4⟩ := Option.bind_eq_some_iff.1 h2
 exact ⟨tx, u', h1, h3, (Option.some.inj h4).symm⟩
/-- Where the loop over a file's statements stands. -/
def CatS (f : S25 → Option (List UInt8)) (B b p q : Nat) (n : S25) (A : Option Addr) (c : Nat) (l t : List UInt8) (w W : World) (j : Nat) : Prop :=
 ∃ dn u, WrS B b p q n A c (l ++ dn) w W ∧ catW f (n.f4.drop j) = some u ∧ dn ++ u = t
/-- Where the loop over a target's parts stands. -/
def SepS (f : S25 → Option (List UInt8)) (B b p q : Nat) (n : S25) (A : Option Addr) (c : Nat) (l t : List UInt8) (w W : World) (j : Nat) : Prop :=
 ∃ dn u, WrS B b p q n A c (l ++ dn) w W ∧ sepW f (decide (j = 0)) (n.f4.drop j) = some u ∧ dn ++ u = t
set_option maxHeartbeats 16000000 in
set_option maxRecDepth 100000 in
theorem wr_use (k : Nat) (ih : WrOk k) (w0 w : World) (b : Nat) (n : S25) (A : Option Addr) (c : Nat) (l t : List UInt8) (hI : WrI w0 w b n A c l) (hn2 : -9223372036854775808 ≤ n.f2 ∧ n.f2 ≤ 9223372036854775807) (hl4 : n.f4.length ≤ 1000000) (ho : n.f0.toList = ([117, 115, 101] : List UInt8)) (h : t = n.f1.data.toList) (hlen : l.length + t.length ≤ 1000000000) :
  Calls Tryd.prog 22 #[.pointer (some ⟨b, 0, none⟩), xCy n A c] w (WrP w0.heap.size b (l ++ t) w) := by
 have e0 : (n.f0.toList == ([117, 115, 101] : List UInt8)) = true := by rw [ho]; rfl
 have e1 : (n.f0.toList == ([110, 97, 109, 101] : List UInt8)) = false := by rw [ho]; rfl
 have e2 : (n.f0.toList == ([110, 117, 109] : List UInt8)) = false := by rw [ho]; rfl
 have e3 : (n.f0.toList == ([104, 101, 120] : List UInt8)) = false := by rw [ho]; rfl
 have e4 : (n.f0.toList == ([102, 105, 108, 101] : List UInt8)) = false := by rw [ho]; rfl
 have e5 : (n.f0.toList == ([100, 101, 118, 105, 99, 101] : List UInt8)) = false := by rw [ho]; rfl
 have e6 : (n.f0.toList == ([106, 111, 117, 114, 110, 97, 108] : List UInt8)) = false := by rw [ho]; rfl
 have e7 : (n.f0.toList == ([107, 101, 121] : List UInt8)) = false := by rw [ho]; rfl
 have e8 : (n.f0.toList == ([114, 111, 111, 116] : List UInt8)) = false := by rw [ho]; rfl
 have e9 : (n.f0.toList == ([118, 111, 108, 117, 109, 101] : List UInt8)) = false := by rw [ho]; rfl
 have e10 : (n.f0.toList == ([101, 120, 112, 111, 114, 116] : List UInt8)) = false := by rw [ho]; rfl
 clear ho
 have HI := Aside0.mk hI
 have HS0 := Aside0.mk hI.start
 have HN2 := Aside0.mk hn2
 have HLN := Aside0.mk hlen
 have HIH := Aside0.mk ih
 have HT := Aside0.mk h
 have HL4 := Aside0.mk hl4
 clear hI hn2 hlen ih h hl4
 have hmf : ∀ (fn : Fn) (first cap : Array Value) (w : World), (Instr.makeFunc fn first cap).run Tryd.prog w = .ok (.func fn first cap) w := fun _ _ _ _ => rfl
 have hu25 := Tryd.underlying25
 have hu9 := Tryd.underlying9
 have hu69 := Tryd.underlying69
 have eg : Enters Tryd.prog 50 := enters_of Tryd.func50 (by kernel_rfl) rfl
 unfold Enters at eg
 unfold xCy
 go_enter Tryd.func22, Tryd.ntmps22
 go_upto_region 1 with (fail)
 generalize World.alloc (World.alloc w _) _ = W0 at *
 generalize hq_ : w.heap.size + 1 = q at *
 generalize w.heap.size = p at *
 clear hq_
 have HS := HS0
 clear HS0
 have p0 := (xA4 HS.out.pb 0).trans rfl
 obtain ⟨q0, q1, q2, q3, q4⟩ := ey5 HS.out.qb
 go_wp2_with (go_at_call 48; (with_reducible refine (HS.out.str n.f1 (by have h1 := HLN.out; rw [HT.out] at h1; exact h1)).mono ?_); rintro e w1 ⟨rfl, h1⟩; have H1 := Aside0.mk h1; clear h1)
 refine bodyPost_end (results_none rfl _ _ _) rfl ?_
 rw [HT.out]
 exact H1.out.end_
set_option maxHeartbeats 16000000 in
set_option maxRecDepth 100000 in
theorem wr_file (k : Nat) (ih : WrOk k) (w0 w : World) (b : Nat) (n : S25) (A : Option Addr) (c : Nat) (l t : List UInt8) (hI : WrI w0 w b n A c l) (hn2 : -9223372036854775808 ≤ n.f2 ∧ n.f2 ≤ 9223372036854775807) (hl4 : n.f4.length ≤ 1000000) (ho : n.f0.toList = ([102, 105, 108, 101] : List UInt8)) (h : catW (xE3 k) n.f4 = some t) (hlen : l.length + t.length ≤ 1000000000) :
  Calls Tryd.prog 22 #[.pointer (some ⟨b, 0, none⟩), xCy n A c] w (WrP w0.heap.size b (l ++ t) w) := by
 have e0 : (n.f0.toList == ([117, 115, 101] : List UInt8)) = false := by rw [ho]; rfl
 have e1 : (n.f0.toList == ([110, 97, 109, 101] : List UInt8)) = false := by rw [ho]; rfl
 have e2 : (n.f0.toList == ([110, 117, 109] : List UInt8)) = false := by rw [ho]; rfl
 have e3 : (n.f0.toList == ([104, 101, 120] : List UInt8)) = false := by rw [ho]; rfl
 have e4 : (n.f0.toList == ([102, 105, 108, 101] : List UInt8)) = true := by rw [ho]; rfl
 have e5 : (n.f0.toList == ([100, 101, 118, 105, 99, 101] : List UInt8)) = false := by rw [ho]; rfl
 have e6 : (n.f0.toList == ([106, 111, 117, 114, 110, 97, 108] : List UInt8)) = false := by rw [ho]; rfl
 have e7 : (n.f0.toList == ([107, 101, 121] : List UInt8)) = false := by rw [ho]; rfl
 have e8 : (n.f0.toList == ([114, 111, 111, 116] : List UInt8)) = false := by rw [ho]; rfl
 have e9 : (n.f0.toList == ([118, 111, 108, 117, 109, 101] : List UInt8)) = false := by rw [ho]; rfl
 have e10 : (n.f0.toList == ([101, 120, 112, 111, 114, 116] : List UInt8)) = false := by rw [ho]; rfl
 clear ho
 have HI := Aside0.mk hI
 have HS0 := Aside0.mk hI.start
 have HN2 := Aside0.mk hn2
 have HLN := Aside0.mk hlen
 have HIH := Aside0.mk ih
 have HT := Aside0.mk h
 have HL4 := Aside0.mk hl4
 clear hI hn2 hlen ih h hl4
 have hmf : ∀ (fn : Fn) (first cap : Array Value) (w : World), (Instr.makeFunc fn first cap).run Tryd.prog w = .ok (.func fn first cap) w := fun _ _ _ _ => rfl
 have hu25 := Tryd.underlying25
 have hu9 := Tryd.underlying9
 have hu69 := Tryd.underlying69
 have eg : Enters Tryd.prog 50 := enters_of Tryd.func50 (by kernel_rfl) rfl
 unfold Enters at eg
 unfold xCy
 go_enter Tryd.func22, Tryd.ntmps22
 go_upto_region 1 with (fail)
 generalize World.alloc (World.alloc w _) _ = W0 at *
 generalize hq_ : w.heap.size + 1 = q at *
 generalize w.heap.size = p at *
 clear hq_
 have HS := HS0
 clear HS0
 have p0 := (xA4 HS.out.pb 0).trans rfl
 obtain ⟨q0, q1, q2, q3, q4⟩ := ey5 HS.out.qb
 go_upto_block 1 with (fail)
 go_wp2_with (fail)
 go_loopw [37] (fun i wr => ∃ j : Nat, j ≤ n.f4.length ∧ i = .int .i64 j ∧ Aside0 (CatS (xE3 k) w0.heap.size b p q n A c l t w wr j)) (fun i _ => n.f4.length - (intOf i).toNat)
 case atStart => exact ⟨0, Nat.zero_le _, rfl, ⟨[], t, by simpa using HS.out, HT.out, rfl⟩⟩
 case round =>
  clear p0 q0 q1 q2 q3 q4
  clear HS
  obtain ⟨j, hj, rfl, HC⟩ := hrel
  obtain ⟨dn, u, hS, hu, hdu⟩ := HC.out
  have HS := Aside0.mk hS
  have HDU := Aside0.mk hdu
  clear hS hdu HC
  have p0 := (xA4 HS.out.pb 0).trans rfl
  obtain ⟨q0, q1, q2, q3, q4⟩ := ey5 HS.out.qb
  by_cases hlt : j < n.f4.length
  ·skip
   obtain ⟨tx, u', htx, hu', hue⟩ := cat_inv hu hlt
   have HTX := Aside0.mk htx
   have HU := Aside0.mk hu'
   have HUE := Aside0.mk hue
   clear htx hu' hue hu
   obtain ⟨ad, A4, c4, hA, y0, y1, y2, y3, y4, hl4, hC4⟩ := xEg HI.out.hC (j : Int) (by omega) (by omega)
   simp only [Int.toNat_natCast] at y0 y1 y2 y3 y4
   generalize hrd : xAd n.f4 (j : Int) = x at *
   clear hrd
   have HL4x := Aside0.mk hl4
   have HC4x := Aside0.mk hC4
   clear hl4 hC4
   have hbd := HI.out.bel.trans HS.out.fr.1
   replace y0 := xAb hbd y0
   replace y1 := xAb hbd y1
   replace y2 := xAb hbd y2
   replace y3 := xAb hbd y3
   replace y4 := xAb hbd y4
   clear hbd
   subst hA
   have pl : (0 ≤ (j : Int)) = True := eq_true (by omega)
   have ql : ((j : Int) < (n.f4.length : Int)) = True := eq_true (by omega)
   have ql2 : (j < n.f4.length) = True := eq_true hlt
   have hl4 := HL4.out
   have hj6 : (j : Int) ≤ 1000000 := by omega
   go_upto_region 13 with (fail)
   generalize hW : World.alloc wr _ = W1
   have HS1 := Aside0.mk (show WrS w0.heap.size b p q n (some ad) c (l ++ dn) w W1 from by rw [← hW]; exact HS.out.alloc _)
   have NB := Aside0.mk (show W1.heap[wr.heap.size]? = some (.cells #[.string x.f0, .string x.f1, .int .i64 x.f2, .int .i64 x.f3, .slice A4 x.f4.length c4] 25 (0, 0)) from by rw [← hW]; exact xBj _ _)
   clear hW y0 y1 y2 y3 y4 pl ql ql2
   clear p0 q0 q1 q2 q3 q4
   have hcall := HIH.out w0 W1 b x A4 c4 (l ++ dn) tx ⟨HI.out.bel.trans HS1.out.fr.1, HS1.out.bld, HL4x.out, HC4x.out, HI.out.tab⟩ HTX.out (by have h1 := HLN.out; rw [← HDU.out, HUE.out] at h1; simp at h1 ⊢; omega)
   unfold xCy at hcall
   have HCALL := Aside0.mk hcall
   clear hcall
   have p0 := (xA4 HS1.out.pb 0).trans rfl
   obtain ⟨q0, q1, q2, q3, q4⟩ := ey5 HS1.out.qb
   obtain ⟨z0, z1, z2, z3, z4⟩ := ey5 NB.out
   go_wp2_with (go_at_call 22; (with_reducible refine HCALL.out.mono ?_); rintro e w2 ⟨rfl, h1, h2⟩; have H2 := Aside0.mk (HS1.out.call h1 h2); clear h1 h2)
   go_roundw
   case rel => exact ⟨j + 1, by omega, by go_num, ⟨dn ++ tx, u', by rw [← List.append_assoc]; exact H2.out, HU.out, by rw [← HDU.out, HUE.out, List.append_assoc]⟩⟩
   case measure => simp [intOf]; omega
  have hje : j = n.f4.length := by omega
  subst hje
  go_wp2
  refine bodyPost_end (results_none rfl _ _ _) rfl ?_
  have h1 := HS.out.end_
  rw [List.drop_eq_nil_of_le (Nat.le_refl _)] at hu
  cases hu
  have h2 := HDU.out
  rw [List.append_nil] at h2
  rwa [h2] at h1
set_option maxHeartbeats 16000000 in
set_option maxRecDepth 100000 in
theorem xLi (k : Nat) (ih : WrOk k) (w0 w : World) (b : Nat) (n : S25) (A : Option Addr) (c : Nat) (l t : List UInt8) (hI : WrI w0 w b n A c l) (hn2 : -9223372036854775808 ≤ n.f2 ∧ n.f2 ≤ 9223372036854775807) (hl4 : n.f4.length ≤ 1000000) (ho : n.f0.toList = ([118, 111, 108, 117, 109, 101] : List UInt8)) (tx : List UInt8) (hw : headW (xE3 k) n.f4 = some tx) (h : t = [118, 111, 108, 117, 109, 101, 32] ++ n.f1.data.toList ++ [32, 61, 32] ++ tx ++ [59, 10]) (hlen : l.length + t.length ≤ 1000000000) :
  Calls Tryd.prog 22 #[.pointer (some ⟨b, 0, none⟩), xCy n A c] w (WrP w0.heap.size b (l ++ t) w) := by
 have e0 : (n.f0.toList == ([117, 115, 101] : List UInt8)) = false := by rw [ho]; rfl
 have e1 : (n.f0.toList == ([110, 97, 109, 101] : List UInt8)) = false := by rw [ho]; rfl
 have e2 : (n.f0.toList == ([110, 117, 109] : List UInt8)) = false := by rw [ho]; rfl
 have e3 : (n.f0.toList == ([104, 101, 120] : List UInt8)) = false := by rw [ho]; rfl
 have e4 : (n.f0.toList == ([102, 105, 108, 101] : List UInt8)) = false := by rw [ho]; rfl
 have e5 : (n.f0.toList == ([100, 101, 118, 105, 99, 101] : List UInt8)) = false := by rw [ho]; rfl
 have e6 : (n.f0.toList == ([106, 111, 117, 114, 110, 97, 108] : List UInt8)) = false := by rw [ho]; rfl
 have e7 : (n.f0.toList == ([107, 101, 121] : List UInt8)) = false := by rw [ho]; rfl
 have e8 : (n.f0.toList == ([114, 111, 111, 116] : List UInt8)) = false := by rw [ho]; rfl
 have e9 : (n.f0.toList == ([118, 111, 108, 117, 109, 101] : List UInt8)) = true := by rw [ho]; rfl
 have e10 : (n.f0.toList == ([101, 120, 112, 111, 114, 116] : List UInt8)) = false := by rw [ho]; rfl
 clear ho
 have HI := Aside0.mk hI
 have HS0 := Aside0.mk hI.start
 have HN2 := Aside0.mk hn2
 have HLN := Aside0.mk hlen
 have HIH := Aside0.mk ih
 have HT := Aside0.mk h
 have HL4 := Aside0.mk hl4
 clear hI hn2 hlen ih h hl4
 have hmf : ∀ (fn : Fn) (first cap : Array Value) (w : World), (Instr.makeFunc fn first cap).run Tryd.prog w = .ok (.func fn first cap) w := fun _ _ _ _ => rfl
 have hu25 := Tryd.underlying25
 have hu9 := Tryd.underlying9
 have hu69 := Tryd.underlying69
 have eg : Enters Tryd.prog 50 := enters_of Tryd.func50 (by kernel_rfl) rfl
 unfold Enters at eg
 unfold xCy
 go_enter Tryd.func22, Tryd.ntmps22
 go_upto_region 1 with (fail)
 generalize World.alloc (World.alloc w _) _ = W0 at *
 generalize hq_ : w.heap.size + 1 = q at *
 generalize w.heap.size = p at *
 clear hq_
 have HS := HS0
 clear HS0
 have p0 := (xA4 HS.out.pb 0).trans rfl
 obtain ⟨q0, q1, q2, q3, q4⟩ := ey5 HS.out.qb
 have HW := Aside0.mk hw
 clear hw
 have HP1 := Aside0.mk (HS.out.put [(⟨#[118, 111, 108, 117, 109, 101, 32]⟩ : ByteArray), n.f1, (⟨#[32, 61, 32]⟩ : ByteArray)] #[.string (⟨#[118, 111, 108, 117, 109, 101, 32]⟩ : ByteArray), .string n.f1, .string (⟨#[32, 61, 32]⟩ : ByteArray)] 3 rfl rfl (by have h1 := HLN.out; rw [HT.out] at h1; simp [catB] at h1 ⊢; omega) (by decide))
 go_upto_region 36 with (go_at_fn 50; (with_reducible refine HP1.out.mono ?_); rintro e w1 ⟨rfl, h1⟩; have H1 := Aside0.mk h1; clear h1)
 clear HP1 HS
 clear p0 q0 q1 q2 q3 q4
 generalize hw1_ : w1 = W1 at *; clear hw1_
 have HD := Aside0.mk H1.out.drew
 clear H1
 obtain ⟨x, xs, hxs⟩ : ∃ x xs, n.f4 = x :: xs := by cases h : n.f4 with | nil => (have h1 := HW.out; rw [h] at h1; cases h1) | cons x xs => exact ⟨x, xs, rfl⟩
 have HWx := Aside0.mk (show xE3 k x = some tx from by have h1 := HW.out; rw [hxs] at h1; exact h1)
 have hlt0 : 0 < n.f4.length := by rw [hxs]; simp
 have hrd : xAd n.f4 0 = x := by rw [hxs]; rfl
 obtain ⟨ad, A4, c4, rfl, y0, y1, y2, y3, y4, hl4, hC4⟩ := xEg HI.out.hC 0 (Int.le_refl _) (by omega)
 rw [hrd] at y0 y1 y2 y3 y4 hl4 hC4
 simp only [Int.toNat_zero, Nat.zero_mul, add0] at y0 y1 y2 y3 y4
 have HX := Aside0.mk hxs
 have HRD := Aside0.mk hrd
 have HL4x := Aside0.mk hl4
 have HC4x := Aside0.mk hC4
 clear hxs hrd hl4 hC4
 have hbd := HI.out.bel.trans HD.out.fr.1
 replace y0 := xAb hbd y0
 replace y1 := xAb hbd y1
 replace y2 := xAb hbd y2
 replace y3 := xAb hbd y3
 replace y4 := xAb hbd y4
 have HBD := Aside0.mk hbd
 clear hbd
 have p0 := (xA4 HD.out.pb 0).trans rfl
 have q4 := (xA4 HD.out.qb 4).trans rfl
 refine xDt (n := 6) (S := fun w' => w'.cell? ⟨p, 0, none⟩ = some (.pointer (some ⟨b, 0, none⟩)) ∧ w'.cell? ⟨q, 4, none⟩ = some (.slice (some ad) n.f4.length c) ∧ w'.cell? ad = some (.string x.f0) ∧ w'.cell? ⟨ad.block, ad.off + 1, none⟩ = some (.string x.f1) ∧ w'.cell? ⟨ad.block, ad.off + 2, none⟩ = some (.int .i64 x.f2) ∧ w'.cell? ⟨ad.block, ad.off + 3, none⟩ = some (.int .i64 x.f3) ∧ w'.cell? ⟨ad.block, ad.off + 4, none⟩ = some (.slice A4 x.f4.length c4)) (ds := [5]) #[false, false, false, false, false, false] (by kernel_rfl) rfl rfl ?hS (fun hHeld => ?_)
 case hS => exact ⟨p0, q4, y0, y1, y2, y3, y4⟩
 generalize World.drew W1 = Wd at *
 refine xC1 (i := 1) (N := some 113) (v := ?_) (a' := ?_) #[false, true, false, false, false, false] rfl rfl (by kernel_rfl) (fun _ _ _ h => h) (Or.inl ⟨by rfl, ?_⟩) ?_ ?_
 rotate_left
 ·intro w'
  go_simp
  with_reducible rfl
 rotate_left
 ·simp only [Act.put, List.setIfInBounds_toArray, List.set_cons_zero, List.set_cons_succ, xB1, xB2]
  rfl
 refine xDu (i := 0) (N := some 112) (v := ?_) (a' := ?_) #[true, true, false, false, false, false] rfl rfl (by kernel_rfl) (fun _ _ _ h => h) (Or.inl ⟨by rfl, ?_⟩) hHeld ?_ ?_
 rotate_left
 ·rintro w' ⟨s0, s1, s2, s3, s4, s5, s6⟩
  go_simp
  with_reducible rfl
 rotate_left
 ·simp only [Act.put, List.setIfInBounds_toArray, List.set_cons_zero, List.set_cons_succ, xB1, xB2]
  rfl
 refine xDu (i := 2) (N := some 114) (v := ?_) (a' := ?_) #[true, true, true, false, false, false] rfl rfl (by kernel_rfl) (fun _ _ _ h => h) (Or.inl ⟨by rfl, ?_⟩) hHeld ?_ ?_
 rotate_left
 ·rintro w' ⟨s0, s1, s2, s3, s4, s5, s6⟩
  go_simp
  with_reducible rfl
 rotate_left
 ·simp only [Act.put, List.setIfInBounds_toArray, List.set_cons_zero, List.set_cons_succ, xB1, xB2]
  rfl
 refine xC1 (i := 3) (N := some 115) (v := ?_) (a' := ?_) #[true, true, true, true, false, false] rfl rfl (by kernel_rfl) (fun _ _ _ h => h) (Or.inl ⟨by rfl, ?_⟩) ?_ ?_
 rotate_left
 ·intro w'
  go_simp
  with_reducible rfl
 rotate_left
 ·simp only [Act.put, List.setIfInBounds_toArray, List.set_cons_zero, List.set_cons_succ, xB1, xB2]
  rfl
 refine xDu (i := 4) (N := some 116) (v := ?_) (a' := ?_) #[true, true, true, true, true, false] rfl rfl (by kernel_rfl) (fun _ _ _ h => h) (Or.inl ⟨by rfl, ?_⟩) hHeld ?_ ?_
 rotate_left
 ·rintro w' ⟨s0, s1, s2, s3, s4, s5, s6⟩
  go_simp
  with_reducible rfl
 rotate_left
 ·simp only [Act.put, List.setIfInBounds_toArray, List.set_cons_zero, List.set_cons_succ, xB1, xB2]
  rfl
 refine xG0 (i := 5) (N := some 117) #[true, true, true, true, true, true] rfl rfl (by kernel_rfl) (by decide) (fun K hK => ?_)
 refine goes_ Tryd.func22 (by kernel_rfl) rfl #[.pointer (some ⟨b, 0, none⟩), xCy x A4 c4] (by rfl) rfl rfl (by first | rfl | (simp [Act.eval, xCy]; done) | (go_simp; done)) ?_
 refine (HIH.out w0 Wd b x A4 c4 _ tx ⟨HBD.out, HD.out.bld, HL4x.out, HC4x.out, HI.out.tab⟩ HWx.out (by have h1 := HLN.out; rw [HT.out] at h1; simp [catB] at h1 ⊢; omega)).mono ?_
 rintro e w2 ⟨rfl, h1, h2⟩
 refine ⟨_, rfl, ?_⟩
 have H2 := Aside0.mk (HD.out.call h1 h2)
 clear h1 h2
 refine hK.out _ _ ?_
 clear hK K
 refine xCp (a' := ?_) ?_ ?_
 rotate_left
 ·show Act.put _ (some 117) _ = _
  simp only [Act.put, List.setIfInBounds_toArray, List.set_cons_zero, List.set_cons_succ, xB1, xB2]
  rfl
 refine xFe (by kernel_rfl) ?_
 clear hHeld p0 q4 y0 y1 y2 y3 y4 HD HBD
 have p0 := (xA4 H2.out.pb 0).trans rfl
 obtain ⟨q0, q1, q2, q3, q4⟩ := ey5 H2.out.qb
 have HP3 := Aside0.mk (H2.out.put [(⟨#[59, 10]⟩ : ByteArray)] #[.string (⟨#[59, 10]⟩ : ByteArray)] 1 rfl rfl (by have h1 := HLN.out; rw [HT.out] at h1; simp [catB] at h1 ⊢; omega) (by decide))
 go_wp2_with (go_at_fn 50; (with_reducible refine HP3.out.mono ?_); rintro e w1 ⟨rfl, h1⟩; have H3 := Aside0.mk h1; clear h1)
 refine bodyPost_end (results_none rfl _ _ _) rfl ?_
 have h1 := H3.out.end_
 rw [HT.out]
 simpa [catB] using h1
set_option maxHeartbeats 16000000 in
set_option maxRecDepth 100000 in
theorem xLj (k : Nat) (ih : WrOk k) (w0 w : World) (b : Nat) (n : S25) (A : Option Addr) (c : Nat) (l t : List UInt8) (hI : WrI w0 w b n A c l) (hn2 : -9223372036854775808 ≤ n.f2 ∧ n.f2 ≤ 9223372036854775807) (hl4 : n.f4.length ≤ 1000000) (hn0 : ¬ n.f0.toList = ([117, 115, 101] : List UInt8)) (hn1 : ¬ n.f0.toList = ([110, 97, 109, 101] : List UInt8)) (hn2 : ¬ n.f0.toList = ([110, 117, 109] : List UInt8)) (hn3 : ¬ n.f0.toList = ([104, 101, 120] : List UInt8)) (hn4 : ¬ n.f0.toList = ([102, 105, 108, 101] : List UInt8)) (hn5 : ¬ n.f0.toList = ([100, 101, 118, 105, 99, 101] : List UInt8)) (hn6 : ¬ n.f0.toList = ([106, 111, 117, 114, 110, 97, 108] : List UInt8)) (hn7 : ¬ n.f0.toList = ([107, 101, 121] : List UInt8)) (hn8 : ¬ n.f0.toList = ([114, 111, 111, 116] : List UInt8)) (hn9 : ¬ n.f0.toList = ([118, 111, 108, 117, 109, 101] : List UInt8)) (hn10 : ¬ n.f0.toList = ([101, 120, 112, 111, 114, 116] : List UInt8)) (tx0 : List UInt8) (hs : sepW (xE3 k) true n.f4 = some tx0) (h : t = n.f0.data.toList ++ [40] ++ tx0 ++ [41]) (hlen : l.length + t.length ≤ 1000000000) :
  Calls Tryd.prog 22 #[.pointer (some ⟨b, 0, none⟩), xCy n A c] w (WrP w0.heap.size b (l ++ t) w) := by
 have e0 : (n.f0.toList == ([117, 115, 101] : List UInt8)) = false := beq_eq_false_iff_ne.2 hn0
 have e1 : (n.f0.toList == ([110, 97, 109, 101] : List UInt8)) = false := beq_eq_false_iff_ne.2 hn1
 have e2 : (n.f0.toList == ([110, 117, 109] : List UInt8)) = false := beq_eq_false_iff_ne.2 hn2
 have e3 : (n.f0.toList == ([104, 101, 120] : List UInt8)) = false := beq_eq_false_iff_ne.2 hn3
 have e4 : (n.f0.toList == ([102, 105, 108, 101] : List UInt8)) = false := beq_eq_false_iff_ne.2 hn4
 have e5 : (n.f0.toList == ([100, 101, 118, 105, 99, 101] : List UInt8)) = false := beq_eq_false_iff_ne.2 hn5
 have e6 : (n.f0.toList == ([106, 111, 117, 114, 110, 97, 108] : List UInt8)) = false := beq_eq_false_iff_ne.2 hn6
 have e7 : (n.f0.toList == ([107, 101, 121] : List UInt8)) = false := beq_eq_false_iff_ne.2 hn7
 have e8 : (n.f0.toList == ([114, 111, 111, 116] : List UInt8)) = false := beq_eq_false_iff_ne.2 hn8
 have e9 : (n.f0.toList == ([118, 111, 108, 117, 109, 101] : List UInt8)) = false := beq_eq_false_iff_ne.2 hn9
 have e10 : (n.f0.toList == ([101, 120, 112, 111, 114, 116] : List UInt8)) = false := beq_eq_false_iff_ne.2 hn10
 clear hn0 hn1 hn2 hn3 hn4 hn5 hn6 hn7 hn8 hn9 hn10
 have HI := Aside0.mk hI
 have HS0 := Aside0.mk hI.start
 have HN2 := Aside0.mk hn2
 have HLN := Aside0.mk hlen
 have HIH := Aside0.mk ih
 have HT := Aside0.mk h
 have HL4 := Aside0.mk hl4
 clear hI hn2 hlen ih h hl4
 have hmf : ∀ (fn : Fn) (first cap : Array Value) (w : World), (Instr.makeFunc fn first cap).run Tryd.prog w = .ok (.func fn first cap) w := fun _ _ _ _ => rfl
 have hu25 := Tryd.underlying25
 have hu9 := Tryd.underlying9
 have hu69 := Tryd.underlying69
 have eg : Enters Tryd.prog 50 := enters_of Tryd.func50 (by kernel_rfl) rfl
 unfold Enters at eg
 unfold xCy
 go_enter Tryd.func22, Tryd.ntmps22
 go_upto_region 1 with (fail)
 generalize World.alloc (World.alloc w _) _ = W0 at *
 generalize hq_ : w.heap.size + 1 = q at *
 generalize w.heap.size = p at *
 clear hq_
 have HS := HS0
 clear HS0
 have p0 := (xA4 HS.out.pb 0).trans rfl
 obtain ⟨q0, q1, q2, q3, q4⟩ := ey5 HS.out.qb
 have HSP := Aside0.mk hs
 clear hs
 have HP1 := Aside0.mk (HS.out.put [n.f0, (⟨#[40]⟩ : ByteArray)] #[.string n.f0, .string (⟨#[40]⟩ : ByteArray)] 2 rfl rfl (by have h1 := HLN.out; rw [HT.out] at h1; simp [catB] at h1 ⊢; omega) (by decide))
 go_upto_region 18 with (go_at_fn 50; (with_reducible refine HP1.out.mono ?_); rintro e w1 ⟨rfl, h1⟩; have H1 := Aside0.mk h1; clear h1)
 clear HP1 HS
 clear p0 q0 q1 q2 q3 q4
 generalize hl_ : l ++ catB [n.f0, (⟨#[40]⟩ : ByteArray)] = l1 at H1
 have HL1 := Aside0.mk hl_
 clear hl_
 have p0 := (xA4 H1.out.pb 0).trans rfl
 obtain ⟨q0, q1, q2, q3, q4⟩ := ey5 H1.out.qb
 go_wp2_with (fail)
 go_loopw [56] (fun i wr => ∃ j : Nat, j ≤ n.f4.length ∧ i = .int .i64 j ∧ Aside0 (SepS (xE3 k) w0.heap.size b p q n A c l1 tx0 w wr j)) (fun i _ => n.f4.length - (intOf i).toNat)
 case atStart => exact ⟨0, Nat.zero_le _, rfl, ⟨[], tx0, by simpa using H1.out, HSP.out, rfl⟩⟩
 case round =>
  clear p0 q0 q1 q2 q3 q4
  clear H1
  obtain ⟨j, hj, rfl, HC⟩ := hrel
  obtain ⟨dn, u, hS, hu, hdu⟩ := HC.out
  have HS := Aside0.mk hS
  have HDU := Aside0.mk hdu
  clear hS hdu HC
  have HLT := Aside0.mk (show l1.length + tx0.length + 1 ≤ 1000000000 from by have h1 := HLN.out; rw [HT.out] at h1; rw [← HL1.out]; simp [catB] at h1 ⊢; omega)
  have p0 := (xA4 HS.out.pb 0).trans rfl
  obtain ⟨q0, q1, q2, q3, q4⟩ := ey5 HS.out.qb
  by_cases hlt : j < n.f4.length
  ·skip
   obtain ⟨tx, u', htx, hu', hue⟩ := sep_inv hu hlt
   have HTX := Aside0.mk htx
   have HU := Aside0.mk hu'
   have HUE := Aside0.mk hue
   clear htx hu' hue hu
   obtain ⟨ad, A4, c4, hA, y0, y1, y2, y3, y4, hl4, hC4⟩ := xEg HI.out.hC (j : Int) (by omega) (by omega)
   simp only [Int.toNat_natCast] at y0 y1 y2 y3 y4
   generalize hrd : xAd n.f4 (j : Int) = x at *
   clear hrd
   have HL4x := Aside0.mk hl4
   have HC4x := Aside0.mk hC4
   clear hl4 hC4
   have hbd := HI.out.bel.trans HS.out.fr.1
   replace y0 := xAb hbd y0
   replace y1 := xAb hbd y1
   replace y2 := xAb hbd y2
   replace y3 := xAb hbd y3
   replace y4 := xAb hbd y4
   clear hbd
   subst hA
   have pl : (0 ≤ (j : Int)) = True := eq_true (by omega)
   have ql : ((j : Int) < (n.f4.length : Int)) = True := eq_true (by omega)
   have ql2 : (j < n.f4.length) = True := eq_true hlt
   have hl4 := HL4.out
   have hj6 : (j : Int) ≤ 1000000 := by omega
   go_upto_region 21 with (fail)
   generalize hW : World.alloc wr _ = W1
   have HS1 := Aside0.mk (show WrS w0.heap.size b p q n (some ad) c (l1 ++ dn) w W1 from by rw [← hW]; exact HS.out.alloc _)
   have NB := Aside0.mk (show W1.heap[wr.heap.size]? = some (.cells #[.string x.f0, .string x.f1, .int .i64 x.f2, .int .i64 x.f3, .slice A4 x.f4.length c4] 25 (0, 0)) from by rw [← hW]; exact xBj _ _)
   clear hW y0 y1 y2 y3 y4 pl ql ql2
   clear p0 q0 q1 q2 q3 q4
   by_cases hj0 : j = 0
   ·skip
    have d0 : decide ((j : Int) > 0) = false := decide_eq_false (by omega)
    have d0' : decide (0 < (j : Int)) = false := decide_eq_false (by omega)
    have d0n : decide (0 < j) = false := decide_eq_false (by omega)
    have HJ0 := Aside0.mk (show (if decide (j = 0) = true then ([] : List UInt8) else [44, 32]) = [] from by rw [if_pos (decide_eq_true hj0)])
    have HJZ := Aside0.mk hj0
    clear hj0
    have hcall := HIH.out w0 W1 b x A4 c4 (l1 ++ dn) tx ⟨HI.out.bel.trans HS1.out.fr.1, HS1.out.bld, HL4x.out, HC4x.out, HI.out.tab⟩ HTX.out (by have h1 := HLT.out; rw [← HDU.out, HUE.out, HJ0.out] at h1; simp at h1 ⊢; omega)
    unfold xCy at hcall
    have HCALL := Aside0.mk hcall
    clear hcall
    have p0 := (xA4 HS1.out.pb 0).trans rfl
    obtain ⟨q0, q1, q2, q3, q4⟩ := ey5 HS1.out.qb
    obtain ⟨z0, z1, z2, z3, z4⟩ := ey5 NB.out
    go_wp2_with (go_at_call 22; (with_reducible refine HCALL.out.mono ?_); rintro e w2 ⟨rfl, h1, h2⟩; have H2 := Aside0.mk (HS1.out.call h1 h2); clear h1 h2)
    go_roundw
    case rel => exact ⟨j + 1, by omega, by go_num, ⟨dn ++ tx, u', by simpa [List.append_assoc] using H2.out, by rw [show decide (j + 1 = 0) = false by simp]; exact HU.out, by rw [← HDU.out, HUE.out, HJ0.out]; simp [List.append_assoc]⟩⟩
    case measure => simp [intOf]; omega
   have d0 : decide ((j : Int) > 0) = true := decide_eq_true (by omega)
   have d0' : decide (0 < (j : Int)) = true := decide_eq_true (by omega)
   have d0n : decide (0 < j) = true := decide_eq_true (by omega)
   have HJ0 := Aside0.mk (show (if decide (j = 0) = true then ([] : List UInt8) else [44, 32]) = [44, 32] from by rw [if_neg (by simpa using hj0)])
   clear hj0
   have p0 := (xA4 HS1.out.pb 0).trans rfl
   obtain ⟨q0, q1, q2, q3, q4⟩ := ey5 HS1.out.qb
   have HP2 := Aside0.mk (HS1.out.put2 [(⟨#[44, 32]⟩ : ByteArray)] #[.string (⟨#[44, 32]⟩ : ByteArray)] 1 rfl rfl (by have h1 := HLT.out; rw [← HDU.out, HUE.out, HJ0.out] at h1; simp [catB] at h1 ⊢; omega) (by decide))
   have NBZ := Aside0.mk (fun (w' : World) (h : Fr w0.heap.size b W1 w') => h.blk NB.out (fun e => by obtain ⟨cs, hc⟩ := HS1.out.bld.typ; exact xF7 NB.out hc (by decide) e) (by decide))
   go_upto_region 23 with (go_at_fn 50; (with_reducible refine HP2.out.mono ?_); rintro e w1 ⟨rfl, h1, hf1⟩; have H1 := Aside0.mk h1; have NB1 := Aside0.mk (NBZ.out _ hf1); clear h1 hf1)
   clear NB NBZ
   have NB := NB1
   clear NB1
   clear p0 q0 q1 q2 q3 q4
   have H1b := Aside0.mk (show WrS w0.heap.size b p q n (some ad) c (l1 ++ (dn ++ [44, 32])) w w1 from by have h1 := H1.out; simpa [catB, List.append_assoc] using h1)
   clear H1
   have hcall := HIH.out w0 w1 b x A4 c4 (l1 ++ (dn ++ [44, 32])) tx ⟨HI.out.bel.trans H1b.out.fr.1, H1b.out.bld, HL4x.out, HC4x.out, HI.out.tab⟩ HTX.out (by have h1 := HLT.out; rw [← HDU.out, HUE.out, HJ0.out] at h1; simp at h1 ⊢; omega)
   unfold xCy at hcall
   have HCALL := Aside0.mk hcall
   clear hcall
   have p0 := (xA4 H1b.out.pb 0).trans rfl
   obtain ⟨q0, q1, q2, q3, q4⟩ := ey5 H1b.out.qb
   obtain ⟨z0, z1, z2, z3, z4⟩ := ey5 NB.out
   go_wp2_with (go_at_call 22; (with_reducible refine HCALL.out.mono ?_); rintro e w2 ⟨rfl, h1, h2⟩; have H2 := Aside0.mk (H1b.out.call h1 h2); clear h1 h2)
   go_roundw
   case rel => exact ⟨j + 1, by omega, by go_num, ⟨dn ++ [44, 32] ++ tx, u', by simpa [List.append_assoc] using H2.out, by rw [show decide (j + 1 = 0) = false by simp]; exact HU.out, by rw [← HDU.out, HUE.out, HJ0.out]; simp [List.append_assoc]⟩⟩
   case measure => simp [intOf]; omega
  have hje : j = n.f4.length := by omega
  subst hje
  rw [List.drop_eq_nil_of_le (Nat.le_refl _)] at hu
  cases hu
  have h2 := HDU.out
  rw [List.append_nil] at h2
  have HS9 := Aside0.mk (show WrS w0.heap.size b p q n A c (l1 ++ tx0) w wr from by rw [← h2]; exact HS.out)
  clear h2
  have HP9 := Aside0.mk (HS9.out.put [(⟨#[41]⟩ : ByteArray)] #[.string (⟨#[41]⟩ : ByteArray)] 1 rfl rfl (by have h1 := HLT.out; simp [catB] at h1 ⊢; omega) (by decide))
  go_wp2_with (go_at_fn 50; (with_reducible refine HP9.out.mono ?_); rintro e w1 ⟨rfl, h1⟩; have H9 := Aside0.mk h1; clear h1)
  refine bodyPost_end (results_none rfl _ _ _) rfl ?_
  have h1 := H9.out.end_
  rw [HT.out]
  rw [← HL1.out] at h1
  simpa [catB, List.append_assoc] using h1
end Go.Proofs.YtknbfhhmjbnemaaDoor.P
end
section
namespace Go.Proofs.YtknbfhhmjbnemaaDoor.P
open Go.RowKit Go.Proofs.YtknbfhhmjbnemaaDoorW.PrintWords Go.Proofs.YtknbfhhmjbnemaaDoorW.PrintLast Go.Proofs.YtknbfhhmjbnemaaDoorW.PrintMore
attribute [local go_sem] xBh xBp

/-! ### xCv: function 51 -/
def xCv.f (k : Nat) (a0 : ByteArray) : Option (Bool) := (xBi.f k a0).bind fun bt139 => (if bt139.2.1 = 0 then (if (bt139.1.length : Int) = 1 then (if 0 < (bt139.1.length : Int) then (if ((xAu bt139.1 0).f0) = 0 then (if ((xAu bt139.1 0).f1).toList = a0.toList then ((xC6.f a0).bind fun t146 => (some (!t146))) else (some false)) else (some false)) else (none)) else (some false)) else (some false))
set_option maxHeartbeats 8000000 in
set_option maxRecDepth 100000 in
theorem xCv.calls (k : Nat) (a0 : ByteArray) (r : Bool) (w : World) (h : xCv.f k a0 = some r) (m_ : Int) (hm_ : w.cell? ⟨0, 0, none⟩ = some (.int .i64 m_)) :
  Calls Tryd.prog 51 #[.string a0] w fun e w' => e = .returned (.bool r) ∧ Below w.heap.size w w' := by
 have hmA_ := Aside0.mk hm_
 clear hm_
 have HB := Aside0.mk (Below.refl w.heap.size w)
 have H : ((xBi.f k a0).bind fun bt139 => (if bt139.2.1 = 0 then (if (bt139.1.length : Int) = 1 then (if 0 < (bt139.1.length : Int) then (if ((xAu bt139.1 0).f0) = 0 then (if ((xAu bt139.1 0).f1).toList = a0.toList then ((xC6.f a0).bind fun t146 => (some (!t146))) else (some false)) else (some false)) else (none)) else (some false)) else (some false))) = some r := h
 clear h
 replace H := Option.bind_eq_some_iff.mp H
 obtain ⟨⟨t139, t140, t141⟩, A20, H⟩ := H
 replace H : (if t140 = 0 then (if (t139.length : Int) = 1 then (if 0 < (t139.length : Int) then (if ((xAu t139 0).f0) = 0 then (if ((xAu t139 0).f1).toList = a0.toList then ((xC6.f a0).bind fun t146 => (some (!t146))) else (some false)) else (some false)) else (none)) else (some false)) else (some false)) = some r := H
 have A2 := Aside0.mk A20
 clear A20
 by_cases c3 : t140 = 0
 ·rw [if_pos c3] at H
  have c3b0 : (t140 == 0) = true := beq_iff_eq.mpr c3
  have c3b1 : (t140 != 0) = false := bne_eq_false_iff_eq.mpr c3
  clear c3
  by_cases c4 : (t139.length : Int) = 1
  ·rw [if_pos c4] at H
   have c4b0 : ((t139.length : Int) == 1) = true := beq_iff_eq.mpr c4
   have c4b1 : ((t139.length : Int) != 1) = false := bne_eq_false_iff_eq.mpr c4
   clear c4
   by_cases c5 : 0 < (t139.length : Int)
   ·rw [if_pos c5] at H
    have c5b0 : decide (0 < (t139.length : Int)) = true := decide_eq_true c5
    have c5b1 : decide (0 < t139.length) = true := decide_eq_true (by omega)
    clear c5
    by_cases c6 : ((xAu t139 0).f0) = 0
    ·rw [if_pos c6] at H
     have c6b0 : (((xAu t139 0).f0) == 0) = true := beq_iff_eq.mpr c6
     have c6b1 : (((xAu t139 0).f0) != 0) = false := bne_eq_false_iff_eq.mpr c6
     clear c6
     by_cases c7 : ((xAu t139 0).f1).toList = a0.toList
     ·rw [if_pos c7] at H
      have c7b0 : (((xAu t139 0).f1).toList == a0.toList) = true := beq_iff_eq.mpr c7
      have c7b1 : (((xAu t139 0).f1).toList != a0.toList) = false := bne_eq_false_iff_eq.mpr c7
      clear c7
      replace H := Option.bind_eq_some_iff.mp H
      obtain ⟨t146, A80, H⟩ := H
      replace H : (some (!t146)) = some r := H
      have A8 := Aside0.mk A80
      clear A80
      obtain rfl := Option.some.inj H
      go_enter Tryd.func51, Tryd.ntmps51
      go_wp2_with (first | ((with_reducible refine xAo (f := 17) rfl ?_); refine xBo (some 8) rfl rfl Tryd.func17 (by kernel_rfl) rfl #[.string a0] rfl (by (try simp only [List.map_toArray, List.map_cons, List.map_nil]); first | done | rfl | (simp only [List.length_drop, List.length_take]; rfl)) ?_; (with_reducible refine (xBi.calls k a0 t139 t140 t141 _ A2.out).mono ?_); rintro e w9 ⟨v142, rfl, ho0, hb⟩; refine ⟨_, rfl, ?_⟩; have n0_ := Aside0.mk (Kd.R_lower ho0 (xBa (by repeat (first | (with_reducible first | exact HB.out | apply xA2 | apply xA0 | apply xA3) | exact HB.out)))); have n1_ := Aside0.mk (xAz (by repeat (first | (with_reducible first | exact HB.out | apply xA2 | apply xA0 | apply xA3) | exact HB.out)) hb); clear HB; have HO143 := n0_; have HB := n1_; clear n0_ n1_; (try clear hb); (try clear hb2); (try clear hk); (try clear hi); (try clear ho0); obtain ⟨Ao10, co10, eo10⟩ := Kd.R_slice HO143.out; subst eo10; have p144 : 0 ≤ (0 : Int) := (by omega); have q144 : 0 < (t139.length : Int) := of_decide_eq_true (by first | (with_reducible assumption) | assumption); obtain ⟨ad144, e144, hx144_0, hx144_1, hx144_2, hx144_3⟩ := xD6 (Kd.R_reads' HO143.out).2.2 0 p144 q144; cases e144; have qi144 : (0 < t139.length) = True := eq_true (by omega); (try rw [show ((0 : Int)).toNat = 0 from rfl] at hx144_0); (try rw [show 0 * 4 = 0 from rfl] at hx144_0); (try rw [Addr.add_zero'] at hx144_0); (try rw [show ((0 : Int)).toNat = 0 from rfl] at hx144_1); (try rw [show 0 * 4 = 0 from rfl] at hx144_1); (try rw [Addr.add_zero'] at hx144_1); (try rw [show ((0 : Int)).toNat = 0 from rfl] at hx144_2); (try rw [show 0 * 4 = 0 from rfl] at hx144_2); (try rw [Addr.add_zero'] at hx144_2); (try rw [show ((0 : Int)).toNat = 0 from rfl] at hx144_3); (try rw [show 0 * 4 = 0 from rfl] at hx144_3); (try rw [Addr.add_zero'] at hx144_3); replace p144 := eq_true p144; replace q144 := eq_true q144; have p145 : 0 ≤ (0 : Int) := (by omega); have q145 : 0 < (t139.length : Int) := of_decide_eq_true (by first | (with_reducible assumption) | assumption); obtain ⟨ad145, e145, hx145_0, hx145_1, hx145_2, hx145_3⟩ := xD6 (Kd.R_reads' HO143.out).2.2 0 p145 q145; obtain rfl : ad144 = ad145 := (by injection e145); have qi145 : (0 < t139.length) = True := eq_true (by omega); (try rw [show ((0 : Int)).toNat = 0 from rfl] at hx145_0); (try rw [show 0 * 4 = 0 from rfl] at hx145_0); (try rw [Addr.add_zero'] at hx145_0); (try rw [show ((0 : Int)).toNat = 0 from rfl] at hx145_1); (try rw [show 0 * 4 = 0 from rfl] at hx145_1); (try rw [Addr.add_zero'] at hx145_1); (try rw [show ((0 : Int)).toNat = 0 from rfl] at hx145_2); (try rw [show 0 * 4 = 0 from rfl] at hx145_2); (try rw [Addr.add_zero'] at hx145_2); (try rw [show ((0 : Int)).toNat = 0 from rfl] at hx145_3); (try rw [show 0 * 4 = 0 from rfl] at hx145_3); (try rw [Addr.add_zero'] at hx145_3); replace p145 := eq_true p145; replace q145 := eq_true q145) | (go_at_call 68; (with_reducible refine (xC6.calls a0 t146 _ A8.out m_ (by first | (with_reducible exact hmA_.out) | exact xCa hmA_.out (by repeat (first | (with_reducible first | exact HB.out | apply xA2 | apply xA0 | apply xA3) | exact HB.out)) | (repeat (first | exact hmA_.out | refine xC3 ?_ | refine mlen_drew ?_)))).mono ?_); rintro e w' ⟨rfl, ⟨nd, rfl⟩⟩))
      go_ret
      exact ⟨by first | rfl | (simp <;> rfl) | (simp [*] <;> rfl), by repeat (first | (with_reducible first | exact HB.out | apply xA2 | apply xA0 | apply xA3) | exact HB.out)⟩
     ·rw [if_neg c7] at H
      have c7b0 : (((xAu t139 0).f1).toList == a0.toList) = false := beq_eq_false_iff_ne.mpr c7
      have c7b1 : (((xAu t139 0).f1).toList != a0.toList) = true := bne_iff_ne.mpr c7
      obtain rfl := Option.some.inj H
      go_enter Tryd.func51, Tryd.ntmps51
      go_wp2_with (first | ((with_reducible refine xAo (f := 17) rfl ?_); refine xBo (some 8) rfl rfl Tryd.func17 (by kernel_rfl) rfl #[.string a0] rfl (by (try simp only [List.map_toArray, List.map_cons, List.map_nil]); first | done | rfl | (simp only [List.length_drop, List.length_take]; rfl)) ?_; (with_reducible refine (xBi.calls k a0 t139 t140 t141 _ A2.out).mono ?_); rintro e w11 ⟨v142, rfl, ho0, hb⟩; refine ⟨_, rfl, ?_⟩; have n0_ := Aside0.mk (Kd.R_lower ho0 (xBa (by repeat (first | (with_reducible first | exact HB.out | apply xA2 | apply xA0 | apply xA3) | exact HB.out)))); have n1_ := Aside0.mk (xAz (by repeat (first | (with_reducible first | exact HB.out | apply xA2 | apply xA0 | apply xA3) | exact HB.out)) hb); clear HB; have HO143 := n0_; have HB := n1_; clear n0_ n1_; (try clear hb); (try clear hb2); (try clear hk); (try clear hi); (try clear ho0); obtain ⟨Ao12, co12, eo12⟩ := Kd.R_slice HO143.out; subst eo12; have p144 : 0 ≤ (0 : Int) := (by omega); have q144 : 0 < (t139.length : Int) := of_decide_eq_true (by first | (with_reducible assumption) | assumption); obtain ⟨ad144, e144, hx144_0, hx144_1, hx144_2, hx144_3⟩ := xD6 (Kd.R_reads' HO143.out).2.2 0 p144 q144; cases e144; have qi144 : (0 < t139.length) = True := eq_true (by omega); (try rw [show ((0 : Int)).toNat = 0 from rfl] at hx144_0); (try rw [show 0 * 4 = 0 from rfl] at hx144_0); (try rw [Addr.add_zero'] at hx144_0); (try rw [show ((0 : Int)).toNat = 0 from rfl] at hx144_1); (try rw [show 0 * 4 = 0 from rfl] at hx144_1); (try rw [Addr.add_zero'] at hx144_1); (try rw [show ((0 : Int)).toNat = 0 from rfl] at hx144_2); (try rw [show 0 * 4 = 0 from rfl] at hx144_2); (try rw [Addr.add_zero'] at hx144_2); (try rw [show ((0 : Int)).toNat = 0 from rfl] at hx144_3); (try rw [show 0 * 4 = 0 from rfl] at hx144_3); (try rw [Addr.add_zero'] at hx144_3); replace p144 := eq_true p144; replace q144 := eq_true q144; have p145 : 0 ≤ (0 : Int) := (by omega); have q145 : 0 < (t139.length : Int) := of_decide_eq_true (by first | (with_reducible assumption) | assumption); obtain ⟨ad145, e145, hx145_0, hx145_1, hx145_2, hx145_3⟩ := xD6 (Kd.R_reads' HO143.out).2.2 0 p145 q145; obtain rfl : ad144 = ad145 := (by injection e145); have qi145 : (0 < t139.length) = True := eq_true (by omega); (try rw [show ((0 : Int)).toNat = 0 from rfl] at hx145_0); (try rw [show 0 * 4 = 0 from rfl] at hx145_0); (try rw [Addr.add_zero'] at hx145_0); (try rw [show ((0 : Int)).toNat = 0 from rfl] at hx145_1); (try rw [show 0 * 4 = 0 from rfl] at hx145_1); (try rw [Addr.add_zero'] at hx145_1); (try rw [show ((0 : Int)).toNat = 0 from rfl] at hx145_2); (try rw [show 0 * 4 = 0 from rfl] at hx145_2); (try rw [Addr.add_zero'] at hx145_2); (try rw [show ((0 : Int)).toNat = 0 from rfl] at hx145_3); (try rw [show 0 * 4 = 0 from rfl] at hx145_3); (try rw [Addr.add_zero'] at hx145_3); replace p145 := eq_true p145; replace q145 := eq_true q145))
      go_ret
      exact ⟨by first | rfl | (simp <;> rfl) | (simp [*] <;> rfl), by repeat (first | (with_reducible first | exact HB.out | apply xA2 | apply xA0 | apply xA3) | exact HB.out)⟩
    ·rw [if_neg c6] at H
     have c6b0 : (((xAu t139 0).f0) == 0) = false := beq_eq_false_iff_ne.mpr c6
     have c6b1 : (((xAu t139 0).f0) != 0) = true := bne_iff_ne.mpr c6
     obtain rfl := Option.some.inj H
     go_enter Tryd.func51, Tryd.ntmps51
     go_wp2_with (first | ((with_reducible refine xAo (f := 17) rfl ?_); refine xBo (some 8) rfl rfl Tryd.func17 (by kernel_rfl) rfl #[.string a0] rfl (by (try simp only [List.map_toArray, List.map_cons, List.map_nil]); first | done | rfl | (simp only [List.length_drop, List.length_take]; rfl)) ?_; (with_reducible refine (xBi.calls k a0 t139 t140 t141 _ A2.out).mono ?_); rintro e w13 ⟨v142, rfl, ho0, hb⟩; refine ⟨_, rfl, ?_⟩; have n0_ := Aside0.mk (Kd.R_lower ho0 (xBa (by repeat (first | (with_reducible first | exact HB.out | apply xA2 | apply xA0 | apply xA3) | exact HB.out)))); have n1_ := Aside0.mk (xAz (by repeat (first | (with_reducible first | exact HB.out | apply xA2 | apply xA0 | apply xA3) | exact HB.out)) hb); clear HB; have HO143 := n0_; have HB := n1_; clear n0_ n1_; (try clear hb); (try clear hb2); (try clear hk); (try clear hi); (try clear ho0); obtain ⟨Ao14, co14, eo14⟩ := Kd.R_slice HO143.out; subst eo14; have p144 : 0 ≤ (0 : Int) := (by omega); have q144 : 0 < (t139.length : Int) := of_decide_eq_true (by first | (with_reducible assumption) | assumption); obtain ⟨ad144, e144, hx144_0, hx144_1, hx144_2, hx144_3⟩ := xD6 (Kd.R_reads' HO143.out).2.2 0 p144 q144; cases e144; have qi144 : (0 < t139.length) = True := eq_true (by omega); (try rw [show ((0 : Int)).toNat = 0 from rfl] at hx144_0); (try rw [show 0 * 4 = 0 from rfl] at hx144_0); (try rw [Addr.add_zero'] at hx144_0); (try rw [show ((0 : Int)).toNat = 0 from rfl] at hx144_1); (try rw [show 0 * 4 = 0 from rfl] at hx144_1); (try rw [Addr.add_zero'] at hx144_1); (try rw [show ((0 : Int)).toNat = 0 from rfl] at hx144_2); (try rw [show 0 * 4 = 0 from rfl] at hx144_2); (try rw [Addr.add_zero'] at hx144_2); (try rw [show ((0 : Int)).toNat = 0 from rfl] at hx144_3); (try rw [show 0 * 4 = 0 from rfl] at hx144_3); (try rw [Addr.add_zero'] at hx144_3); replace p144 := eq_true p144; replace q144 := eq_true q144))
     go_ret
     exact ⟨by first | rfl | (simp <;> rfl) | (simp [*] <;> rfl), by repeat (first | (with_reducible first | exact HB.out | apply xA2 | apply xA0 | apply xA3) | exact HB.out)⟩
   ·rw [if_neg c5] at H
    exact absurd H (by simp)
  ·rw [if_neg c4] at H
   have c4b0 : ((t139.length : Int) == 1) = false := beq_eq_false_iff_ne.mpr c4
   have c4b1 : ((t139.length : Int) != 1) = true := bne_iff_ne.mpr c4
   obtain rfl := Option.some.inj H
   go_enter Tryd.func51, Tryd.ntmps51
   go_wp2_with (first | ((with_reducible refine xAo (f := 17) rfl ?_); refine xBo (some 8) rfl rfl Tryd.func17 (by kernel_rfl) rfl #[.string a0] rfl (by (try simp only [List.map_toArray, List.map_cons, List.map_nil]); first | done | rfl | (simp only [List.length_drop, List.length_take]; rfl)) ?_; (with_reducible refine (xBi.calls k a0 t139 t140 t141 _ A2.out).mono ?_); rintro e w15 ⟨v142, rfl, ho0, hb⟩; refine ⟨_, rfl, ?_⟩; have n0_ := Aside0.mk (Kd.R_lower ho0 (xBa (by repeat (first | (with_reducible first | exact HB.out | apply xA2 | apply xA0 | apply xA3) | exact HB.out)))); have n1_ := Aside0.mk (xAz (by repeat (first | (with_reducible first | exact HB.out | apply xA2 | apply xA0 | apply xA3) | exact HB.out)) hb); clear HB; have HO143 := n0_; have HB := n1_; clear n0_ n1_; (try clear hb); (try clear hb2); (try clear hk); (try clear hi); (try clear ho0); obtain ⟨Ao16, co16, eo16⟩ := Kd.R_slice HO143.out; subst eo16))
   go_ret
   exact ⟨by first | rfl | (simp <;> rfl) | (simp [*] <;> rfl), by repeat (first | (with_reducible first | exact HB.out | apply xA2 | apply xA0 | apply xA3) | exact HB.out)⟩
 ·rw [if_neg c3] at H
  have c3b0 : (t140 == 0) = false := beq_eq_false_iff_ne.mpr c3
  have c3b1 : (t140 != 0) = true := bne_iff_ne.mpr c3
  obtain rfl := Option.some.inj H
  go_enter Tryd.func51, Tryd.ntmps51
  go_wp2_with (first | ((with_reducible refine xAo (f := 17) rfl ?_); refine xBo (some 8) rfl rfl Tryd.func17 (by kernel_rfl) rfl #[.string a0] rfl (by (try simp only [List.map_toArray, List.map_cons, List.map_nil]); first | done | rfl | (simp only [List.length_drop, List.length_take]; rfl)) ?_; (with_reducible refine (xBi.calls k a0 t139 t140 t141 _ A2.out).mono ?_); rintro e w17 ⟨v142, rfl, ho0, hb⟩; refine ⟨_, rfl, ?_⟩; have n0_ := Aside0.mk (Kd.R_lower ho0 (xBa (by repeat (first | (with_reducible first | exact HB.out | apply xA2 | apply xA0 | apply xA3) | exact HB.out)))); have n1_ := Aside0.mk (xAz (by repeat (first | (with_reducible first | exact HB.out | apply xA2 | apply xA0 | apply xA3) | exact HB.out)) hb); clear HB; have HO143 := n0_; have HB := n1_; clear n0_ n1_; (try clear hb); (try clear hb2); (try clear hk); (try clear hi); (try clear ho0)))
  go_ret
  exact ⟨by first | rfl | (simp <;> rfl) | (simp [*] <;> rfl), by repeat (first | (with_reducible first | exact HB.out | apply xA2 | apply xA0 | apply xA3) | exact HB.out)⟩

end Go.Proofs.YtknbfhhmjbnemaaDoor.P
end
section
namespace Go.Proofs.YtknbfhhmjbnemaaDoor.P
open Go.RowKit Go.Proofs.YtknbfhhmjbnemaaDoorW.PrintWords Go.Proofs.YtknbfhhmjbnemaaDoorW.PrintLast Go.Proofs.YtknbfhhmjbnemaaDoorW.PrintMore
attribute [local go_sem] xBh xBp

/-! ### xCm: function 52 -/
def xCm.f (a0 : Int) : Option (Bool) := if a0 ≥ 0 then (some (decide (a0 ≤ 999999999))) else (some false)
set_option maxHeartbeats 8000000 in
set_option maxRecDepth 100000 in
theorem xCm.calls (a0 : Int) (r : Bool) (w : World) (h : xCm.f a0 = some r) :
  Calls Tryd.prog 52 #[.int .i64 a0] w fun e w' => e = .returned (.bool r) ∧ Drawn0 w w' := by
 have H : (if a0 ≥ 0 then (some (decide (a0 ≤ 999999999))) else (some false)) = some r := h
 clear h
 by_cases c2 : a0 ≥ 0
 ·rw [if_pos c2] at H
  have c2b0 : decide (0 ≤ a0) = true := decide_eq_true c2
  clear c2
  obtain rfl := Option.some.inj H
  go_enter Tryd.func52, Tryd.ntmps52
  go_wp2
  go_ret
  exact ⟨by first | rfl | (simp; done) | (simp [*]; done), by repeat (first | exact Drawn0.refl _ | apply Drawn0.step)⟩
 ·rw [if_neg c2] at H
  have c2b0 : decide (0 ≤ a0) = false := decide_eq_false c2
  clear c2
  obtain rfl := Option.some.inj H
  go_enter Tryd.func52, Tryd.ntmps52
  go_wp2
  go_ret
  exact ⟨by first | rfl | (simp; done) | (simp [*]; done), by repeat (first | exact Drawn0.refl _ | apply Drawn0.step)⟩

end Go.Proofs.YtknbfhhmjbnemaaDoor.P
end
section
namespace Go.Proofs.YtknbfhhmjbnemaaDoor.P
open Go.RowKit Go.Proofs.YtknbfhhmjbnemaaDoorW.PrintWords Go.Proofs.YtknbfhhmjbnemaaDoorW.PrintLast Go.Proofs.YtknbfhhmjbnemaaDoorW.PrintMore
attribute [local go_sem] xBh xBp

/-! ### xBf: function 81 -/
def xBf.j0 : Nat → ByteArray → Bool → ByteArray → ByteArray → Int → Int → List (S25) → Option (Bool)
 | 0, _, _, _, _, _, _, _ => none
 | k + 1, x1, x14, x155000, x155001, x155002, x155003, x155004 => if x14 = true then (some false) else (if x1.toList = ([110, 117, 109] : List UInt8) then (if x155001.toList = ([] : List UInt8) then ((xCm.f x155002).bind fun t155 => (some t155)) else (some false)) else (if x155002 = 0 then ((xCv.f k x155001).bind fun t156 => (some t156)) else (some false)))
def xBf.f (k : Nat) (a0_0 : ByteArray) (a0_1 : ByteArray) (a0_2 : Int) (a0_3 : Int) (l0_4 : List (S25)) (a1 : ByteArray) : Option (Bool) := if a0_0.toList = a1.toList then (xBf.j0 k a1 (decide ((l0_4.length : Int) > 0)) a0_0 a0_1 a0_2 a0_3 l0_4) else (xBf.j0 k a1 true a0_0 a0_1 a0_2 a0_3 l0_4)
set_option maxHeartbeats 8000000 in
set_option maxRecDepth 100000 in
theorem xBf.calls (k : Nat) (a0_0 : ByteArray) (a0_1 : ByteArray) (a0_2 : Int) (a0_3 : Int) (A0_4 : Option Addr) (c0_4 : Nat) (l0_4 : List (S25)) (a1 : ByteArray) (r : Bool) (w : World) (hr0_4 : Kd.C k25 w A0_4 l0_4.length l0_4) (hc0_4 : l0_4.length ≤ c0_4) (h : xBf.f k a0_0 a0_1 a0_2 a0_3 l0_4 a1 = some r) (m_ : Int) (hm_ : w.cell? ⟨0, 0, none⟩ = some (.int .i64 m_)) :
  Calls Tryd.prog 81 #[.agg #[.string a0_0, .string a0_1, .int .i64 a0_2, .int .i64 a0_3, .slice A0_4 l0_4.length c0_4], .string a1] w fun e w' => e = .returned (.bool r) ∧ Below w.heap.size w w' := by
 have hmA_ := Aside0.mk hm_
 clear hm_
 have hu25 := Tryd.underlying25
 have HR0_4 := Aside0.mk hr0_4
 have HC0_4 := Aside0.mk hc0_4
 clear hr0_4 hc0_4
 have HB := Aside0.mk (Below.refl w.heap.size w)
 have H : (if a0_0.toList = a1.toList then (xBf.j0 k a1 (decide ((l0_4.length : Int) > 0)) a0_0 a0_1 a0_2 a0_3 l0_4) else (xBf.j0 k a1 true a0_0 a0_1 a0_2 a0_3 l0_4)) = some r := h
 clear h
 have HC3 := Aside0.mk H
 clear H
 go_enter Tryd.func81, Tryd.ntmps81
 go_upto_region 1 with (first | ((with_reducible refine xB0 (N := 2) rfl ?_); (try (refine xCi (by rfl) ?_; dsimp only)); refine xB9 ?hg (N := 2) ?hd (cs := #[.string a0_0, .string a0_1, .int .i64 a0_2, .int .i64 a0_3, .slice A0_4 l0_4.length c0_4]) (t := 25) ?hr ?_; (case hd => rfl); (case hg => rfl); (case hr => first | (go_simp; done) | (go_simp; rfl)); intro gb154 hg w4 hbox hb; have n0_ := Aside0.mk (xAz (by repeat (first | (with_reducible first | exact HB.out | apply xA2 | apply xA0 | apply xA3) | exact HB.out)) hb); have n1_ := Aside0.mk (hbox); have n2_ := Aside0.mk ((by rw [hg]; exact (xBa (by repeat (first | (with_reducible first | exact HB.out | apply xA2 | apply xA0 | apply xA3) | exact HB.out))) : w.heap.size ≤ gb154)); have n3_ := Aside0.mk ((by rw [hg]; exact (xBa (by repeat (first | (with_reducible first | exact HB.out | apply xA2 | apply xA0 | apply xA3) | exact HB.out))) : w.heap.size ≤ gb154)); clear HB; have HB := n0_; have BK154 := n1_; have GW154 := n2_; have GE154 := n3_; clear n0_ n1_ n2_ n3_; clear hb hbox hg))
 (try simp only [Act.put, List.setIfInBounds_toArray, List.set_cons_zero, List.set_cons_succ])
 go_cut [14] (fun v14 wc => ∃ (kq : Nat) (x14_2 : Bool), v14 = .bool x14_2 ∧ Aside0 (xBf.j0 kq a1 x14_2 a0_0 a0_1 a0_2 a0_3 l0_4 = some r) ∧ Aside0 (kq ≤ k) ∧ Aside0 (wc.heap[gb154]? = some (.cells #[.string a0_0, .string a0_1, .int .i64 a0_2, .int .i64 a0_3, (.slice A0_4 l0_4.length c0_4)] 25 (0, 0))) ∧ Aside0 (Below w.heap.size w wc))
 case first =>
  have H := HC3.out
  clear HC3
  by_cases c5 : a0_0.toList = a1.toList
  ·rw [if_pos c5] at H
   have c5b0 : (a0_0.toList == a1.toList) = true := beq_iff_eq.mpr c5
   have c5b1 : (a0_0.toList != a1.toList) = false := bne_eq_false_iff_eq.mpr c5
   clear c5
   (first | rw [c5b0] | (simp only [xB1, xB2]; rw [c5b0]) | skip)
   have H' := Aside0.mk H
   clear H
   obtain ⟨hcz6_0, hcz6_1, hcz6_2, hcz6_3, hcz6_4, hfz6_0, hfz6_1, hfz6_2, hfz6_3, hfz6_4⟩ := ex5 BK154.out
   go_wp2
   go_meet
   case rel => exact ⟨_, (decide ((l0_4.length : Int) > 0)), (by first | rfl | (simp; done) | (simp [*]; done)), H', ⟨by first | omega | exact Nat.le_refl _⟩, ⟨by (with_reducible repeat (first | refine xA7 ?_ _ | refine xAc ?_ | refine xA6 ?_ _)); exact BK154.out⟩, ⟨by repeat (first | (with_reducible first | exact HB.out | apply xA2 | apply xA0 | apply xA3 | refine xAa ?_ GE154.out) | exact HB.out)⟩⟩
  ·rw [if_neg c5] at H
   have c5b0 : (a0_0.toList == a1.toList) = false := beq_eq_false_iff_ne.mpr c5
   have c5b1 : (a0_0.toList != a1.toList) = true := bne_iff_ne.mpr c5
   (first | rw [c5b0] | (simp only [xB1, xB2]; rw [c5b0]) | skip)
   have H' := Aside0.mk H
   clear H
   obtain ⟨hcz7_0, hcz7_1, hcz7_2, hcz7_3, hcz7_4, hfz7_0, hfz7_1, hfz7_2, hfz7_3, hfz7_4⟩ := ex5 BK154.out
   go_wp2
   go_meet
   case rel => exact ⟨_, (true), (by first | rfl | (simp; done) | (simp [*]; done)), H', ⟨by first | omega | exact Nat.le_refl _⟩, ⟨by (with_reducible repeat (first | refine xA7 ?_ _ | refine xAc ?_ | refine xA6 ?_ _)); exact BK154.out⟩, ⟨by repeat (first | (with_reducible first | exact HB.out | apply xA2 | apply xA0 | apply xA3 | refine xAa ?_ GE154.out) | exact HB.out)⟩⟩
 case rest =>
  clear HC3
  try clear p2
  try clear c5
  try clear c5b0
  try clear c5b1
  try clear hcz6_0 hcz6_1 hcz6_2 hcz6_3 hcz6_4
  try clear hcz7_0 hcz7_1 hcz7_2 hcz7_3 hcz7_4
  try clear hfz6_0 hfz6_1 hfz6_2 hfz6_3 hfz6_4
  try clear hfz7_0 hfz7_1 hfz7_2 hfz7_3 hfz7_4
  obtain ⟨kq, x14_2, rfl, HA, HJ2, BK154, HB⟩ := hcut
  cases kq with
  | zero => exact absurd HA.out (by simp [xBf.j0])
  | succ kj2 =>
   have H := HA.out
   clear HA
   simp only [xBf.j0] at H
   by_cases c8 : x14_2 = true
   ·subst c8
    have H1 : (some false) = some r := by rw [if_pos rfl] at H; exact H
    clear H
    have H := H1
    clear H1
    obtain rfl := Option.some.inj H
    go_wp2
    go_ret
    exact ⟨by first | rfl | (simp <;> rfl) | (simp [*] <;> rfl), by repeat (first | (with_reducible first | exact HB.out | apply xA2 | apply xA0 | apply xA3 | refine xAa ?_ GE154.out) | exact HB.out)⟩
   ·replace c8 := Bool.eq_false_iff.mpr c8
    subst c8
    have H1 : (if a1.toList = ([110, 117, 109] : List UInt8) then (if a0_1.toList = ([] : List UInt8) then ((xCm.f a0_2).bind fun t155 => (some t155)) else (some false)) else (if a0_2 = 0 then ((xCv.f kj2 a0_1).bind fun t156 => (some t156)) else (some false))) = some r := by rw [if_neg (show ¬ (false = true) by decide)] at H; exact H
    clear H
    have H := H1
    clear H1
    by_cases c9 : a1.toList = ([110, 117, 109] : List UInt8)
    ·rw [if_pos c9] at H
     have c9b0 : (a1.toList == ([110, 117, 109] : List UInt8)) = true := beq_iff_eq.mpr c9
     have c9b1 : (a1.toList != ([110, 117, 109] : List UInt8)) = false := bne_eq_false_iff_eq.mpr c9
     clear c9
     by_cases c10 : a0_1.toList = ([] : List UInt8)
     ·rw [if_pos c10] at H
      have c10b0 : (a0_1.toList == ([] : List UInt8)) = true := beq_iff_eq.mpr c10
      have c10b1 : (a0_1.toList != ([] : List UInt8)) = false := bne_eq_false_iff_eq.mpr c10
      clear c10
      replace H := Option.bind_eq_some_iff.mp H
      obtain ⟨t155, A110, H⟩ := H
      replace H : (some t155) = some r := H
      have A11 := Aside0.mk A110
      clear A110
      obtain rfl := Option.some.inj H
      obtain ⟨hcz12_0, hcz12_1, hcz12_2, hcz12_3, hcz12_4, hfz12_0, hfz12_1, hfz12_2, hfz12_3, hfz12_4⟩ := ex5 BK154.out
      go_wp2_with (first | (go_at_call 52; (with_reducible refine (xCm.calls a0_2 t155 _ A11.out).mono ?_); rintro e w' ⟨rfl, ⟨nd, rfl⟩⟩))
      go_ret
      exact ⟨by first | rfl | (simp <;> rfl) | (simp [*] <;> rfl), by repeat (first | (with_reducible first | exact HB.out | apply xA2 | apply xA0 | apply xA3 | refine xAa ?_ GE154.out) | exact HB.out)⟩
     ·rw [if_neg c10] at H
      have c10b0 : (a0_1.toList == ([] : List UInt8)) = false := beq_eq_false_iff_ne.mpr c10
      have c10b1 : (a0_1.toList != ([] : List UInt8)) = true := bne_iff_ne.mpr c10
      obtain rfl := Option.some.inj H
      obtain ⟨hcz13_0, hcz13_1, hcz13_2, hcz13_3, hcz13_4, hfz13_0, hfz13_1, hfz13_2, hfz13_3, hfz13_4⟩ := ex5 BK154.out
      go_wp2
      go_ret
      exact ⟨by first | rfl | (simp <;> rfl) | (simp [*] <;> rfl), by repeat (first | (with_reducible first | exact HB.out | apply xA2 | apply xA0 | apply xA3 | refine xAa ?_ GE154.out) | exact HB.out)⟩
    ·rw [if_neg c9] at H
     have c9b0 : (a1.toList == ([110, 117, 109] : List UInt8)) = false := beq_eq_false_iff_ne.mpr c9
     have c9b1 : (a1.toList != ([110, 117, 109] : List UInt8)) = true := bne_iff_ne.mpr c9
     by_cases c14 : a0_2 = 0
     ·rw [if_pos c14] at H
      have c14b0 : (a0_2 == 0) = true := beq_iff_eq.mpr c14
      have c14b1 : (a0_2 != 0) = false := bne_eq_false_iff_eq.mpr c14
      clear c14
      replace H := Option.bind_eq_some_iff.mp H
      obtain ⟨t156, A150, H⟩ := H
      replace H : (some t156) = some r := H
      have A15 := Aside0.mk A150
      clear A150
      obtain rfl := Option.some.inj H
      obtain ⟨hcz16_0, hcz16_1, hcz16_2, hcz16_3, hcz16_4, hfz16_0, hfz16_1, hfz16_2, hfz16_3, hfz16_4⟩ := ex5 BK154.out
      go_wp2_with (first | (go_at_call 51; (with_reducible refine (xCv.calls kj2 a0_1 t156 _ A15.out m_ (by first | (with_reducible exact hmA_.out) | exact xCa hmA_.out (by repeat (first | (with_reducible first | exact HB.out | apply xA2 | apply xA0 | apply xA3 | refine xAa ?_ GE154.out) | exact HB.out)) | (repeat (first | exact hmA_.out | refine xC3 ?_ | refine mlen_drew ?_)))).mono ?_); rintro e w17 ⟨rfl, hb⟩; have n0_ := Aside0.mk (xAx (g := gb154) (o := .cells #[.string a0_0, .string a0_1, .int .i64 a0_2, .int .i64 a0_3, .slice A0_4 l0_4.length c0_4] 25 (0, 0)) (by (with_reducible repeat (first | refine xA7 ?_ _ | refine xAc ?_ | refine xA6 ?_ _)); exact BK154.out) hb); have n1_ := Aside0.mk (xAz (by repeat (first | (with_reducible first | exact HB.out | apply xA2 | apply xA0 | apply xA3 | refine xAa ?_ GE154.out) | exact HB.out)) hb); clear BK154; clear HB; have BK154 := n0_; have HB := n1_; clear n0_ n1_; (try clear hb); (try clear hb2); (try clear hk); (try clear hi)))
      go_ret
      exact ⟨by first | rfl | (simp <;> rfl) | (simp [*] <;> rfl), by repeat (first | (with_reducible first | exact HB.out | apply xA2 | apply xA0 | apply xA3 | refine xAa ?_ GE154.out) | exact HB.out)⟩
     ·rw [if_neg c14] at H
      have c14b0 : (a0_2 == 0) = false := beq_eq_false_iff_ne.mpr c14
      have c14b1 : (a0_2 != 0) = true := bne_iff_ne.mpr c14
      obtain rfl := Option.some.inj H
      obtain ⟨hcz18_0, hcz18_1, hcz18_2, hcz18_3, hcz18_4, hfz18_0, hfz18_1, hfz18_2, hfz18_3, hfz18_4⟩ := ex5 BK154.out
      go_wp2
      go_ret
      exact ⟨by first | rfl | (simp <;> rfl) | (simp [*] <;> rfl), by repeat (first | (with_reducible first | exact HB.out | apply xA2 | apply xA0 | apply xA3 | refine xAa ?_ GE154.out) | exact HB.out)⟩

end Go.Proofs.YtknbfhhmjbnemaaDoor.P
end
section
namespace Go.Proofs.YtknbfhhmjbnemaaDoor.P
open Go.RowKit Go.Proofs.YtknbfhhmjbnemaaDoorW.PrintWords Go.Proofs.YtknbfhhmjbnemaaDoorW.PrintLast Go.Proofs.YtknbfhhmjbnemaaDoorW.PrintMore
attribute [local go_sem] xBh xBp

/-! ### xAl: function 54 -/
mutual
def xAl.j0 : Nat → Int → Bool → ByteArray → ByteArray → Int → Int → List (S25) → Option (Bool)
 | 0, _, _, _, _, _, _, _ => none
 | k + 1, x1, x14, x158000, x158001, x158002, x158003, x158004 => if x14 = true then (if x1 ≤ 12 then ((xBf.f k x158000 x158001 x158002 x158003 x158004 (⟨#[117, 115, 101]⟩ : ByteArray)).bind fun t158 => (some t158)) else (some false)) else (if x158002 = 0 then (if x158001.toList = ([] : List UInt8) then (xAl.j1 k x1 ((x158004.length : Int) == 0) x158000 x158001 x158002 x158003 x158004) else (xAl.j1 k x1 true x158000 x158001 x158002 x158003 x158004)) else (xAl.j1 k x1 true x158000 x158001 x158002 x158003 x158004))
def xAl.j1 : Nat → Int → Bool → ByteArray → ByteArray → Int → Int → List (S25) → Option (Bool)
 | 0, _, _, _, _, _, _, _ => none
 | k + 1, x1, x34, x158000, x158001, x158002, x158003, x158004 => if x34 = true then (some false) else (if x158000.toList = ([108, 105, 110, 101, 97, 114] : List UInt8) then (if (x158004.length : Int) = 3 then (if 1 < (x158004.length : Int) then ((xBf.f k ((xAd x158004 1).f0) ((xAd x158004 1).f1) ((xAd x158004 1).f2) ((xAd x158004 1).f3) ((xAd x158004 1).f4) (⟨#[110, 117, 109]⟩ : ByteArray)).bind fun t160 => (if t160 = true then (if 2 < (x158004.length : Int) then ((xBf.f k ((xAd x158004 2).f0) ((xAd x158004 2).f1) ((xAd x158004 2).f2) ((xAd x158004 2).f3) ((xAd x158004 2).f4) (⟨#[110, 117, 109]⟩ : ByteArray)).bind fun t162 => (xAl.j3 k x1 1 t162 x158000 x158001 x158002 x158003 x158004)) else (none)) else (xAl.j3 k x1 1 false x158000 x158001 x158002 x158003 x158004))) else (none)) else (xAl.j3 k x1 1 false x158000 x158001 x158002 x158003 x158004)) else (if x158000.toList = ([115, 110, 97, 112, 115, 104, 111, 116] : List UInt8) then (if (x158004.length : Int) = 3 then (if 2 < (x158004.length : Int) then ((xBf.f k ((xAd x158004 2).f0) ((xAd x158004 2).f1) ((xAd x158004 2).f2) ((xAd x158004 2).f3) ((xAd x158004 2).f4) (⟨#[110, 117, 109]⟩ : ByteArray)).bind fun t164 => (xAl.j3 k x1 2 t164 x158000 x158001 x158002 x158003 x158004)) else (none)) else (xAl.j3 k x1 2 false x158000 x158001 x158002 x158003 x158004)) else (if x158000.toList = ([99, 114, 121, 112, 116] : List UInt8) then (xAl.j2 k x1 1 true x158000 (x158000.toList == ([99, 114, 121, 112, 116] : List UInt8)) x158000 x158001 x158002 x158003 x158004) else (if x158000.toList = ([105, 110, 116, 101, 103, 114, 105, 116, 121] : List UInt8) then (xAl.j2 k x1 1 true x158000 (x158000.toList == ([105, 110, 116, 101, 103, 114, 105, 116, 121] : List UInt8)) x158000 x158001 x158002 x158003 x158004) else (xAl.j2 k x1 1 true x158000 (x158000.toList == ([118, 101, 114, 105, 116, 121] : List UInt8)) x158000 x158001 x158002 x158003 x158004)))))
def xAl.j3 : Nat → Int → Int → Bool → ByteArray → ByteArray → Int → Int → List (S25) → Option (Bool)
 | 0, _, _, _, _, _, _, _, _ => none
 | k + 1, x1, x5, x6, x158000, x158001, x158002, x158003, x158004 => xAl.l0 k x1 x5 x6 0 x158000 x158001 x158002 x158003 x158004
def xAl.l0 : Nat → Int → Int → Bool → Int → ByteArray → ByteArray → Int → Int → List (S25) → Option (Bool)
 | 0, _, _, _, _, _, _, _, _, _ => none
 | k + 1, x1, x5, x6, x7, x158000, x158001, x158002, x158003, x158004 => if x6 = true then (if x7 < x5 then (if 0 ≤ x7 then (if x7 < (x158004.length : Int) then ((xAl.f k ((xAd x158004 x7).f0) ((xAd x158004 x7).f1) ((xAd x158004 x7).f2) ((xAd x158004 x7).f3) ((xAd x158004 x7).f4) (wrap64 (x1 + 1))).bind fun t168 => (xAl.l0 k x1 x5 t168 (wrap64 (x7 + 1)) x158000 x158001 x158002 x158003 x158004)) else (none)) else (none)) else (some x6)) else (some x6)
def xAl.j2 : Nat → Int → Int → Bool → ByteArray → Bool → ByteArray → ByteArray → Int → Int → List (S25) → Option (Bool)
 | 0, _, _, _, _, _, _, _, _, _, _ => none
 | k + 1, x1, x5, x6, x36, x70, x158000, x158001, x158002, x158003, x158004 => if x70 = true then (if (x158004.length : Int) = 2 then (if 1 < (x158004.length : Int) then ((xBf.f k ((xAd x158004 1).f0) ((xAd x158004 1).f1) ((xAd x158004 1).f2) ((xAd x158004 1).f3) ((xAd x158004 1).f4) (⟨#[110, 97, 109, 101]⟩ : ByteArray)).bind fun t166 => (xAl.j3 k x1 x5 t166 x158000 x158001 x158002 x158003 x158004)) else (none)) else (xAl.j3 k x1 x5 false x158000 x158001 x158002 x158003 x158004)) else (if x36.toList = ([99, 111, 110, 99, 97, 116] : List UInt8) then (xAl.j3 k x1 (x158004.length : Int) x6 x158000 x158001 x158002 x158003 x158004) else (if x36.toList = ([109, 105, 114, 114, 111, 114] : List UInt8) then (xAl.j3 k x1 (x158004.length : Int) x6 x158000 x158001 x158002 x158003 x158004) else (xAl.j3 k x1 x5 false x158000 x158001 x158002 x158003 x158004)))
def xAl.f : Nat → ByteArray → ByteArray → Int → Int → List (S25) → Int → Option (Bool)
 | 0, _, _, _, _, _, _ => none
 | k + 1, a0_0, a0_1, a0_2, a0_3, l0_4, a1 => if a1 > 12 then (xAl.j0 k a1 true a0_0 a0_1 a0_2 a0_3 l0_4) else (xAl.j0 k a1 (a0_0.toList == ([117, 115, 101] : List UInt8)) a0_0 a0_1 a0_2 a0_3 l0_4)
end
set_option maxHeartbeats 8000000 in
set_option maxRecDepth 100000 in
theorem xAl.calls (k : Nat) : ∀ (a0_0 : ByteArray) (a0_1 : ByteArray) (a0_2 : Int) (a0_3 : Int) (A0_4 : Option Addr) (c0_4 : Nat) (l0_4 : List (S25)) (a1 : Int) (r : Bool) (w : World) (hr0_4 : Kd.C k25 w A0_4 l0_4.length l0_4) (hc0_4 : l0_4.length ≤ c0_4) (h : xAl.f k a0_0 a0_1 a0_2 a0_3 l0_4 a1 = some r) (m_ : Int) (hm_ : w.cell? ⟨0, 0, none⟩ = some (.int .i64 m_)),
  Calls Tryd.prog 54 #[.agg #[.string a0_0, .string a0_1, .int .i64 a0_2, .int .i64 a0_3, .slice A0_4 l0_4.length c0_4], .int .i64 a1] w fun e w' => e = .returned (.bool r) ∧ Below w.heap.size w w' := by
 induction k using Nat.strongRecOn with
 | _ k ih =>
 intro a0_0 a0_1 a0_2 a0_3 A0_4 c0_4 l0_4 a1 r w hr0_4 hc0_4 h m_ hm_
 have hmA_ := Aside0.mk hm_
 clear hm_
 cases k with
 | zero => exact absurd h (by simp [xAl.f])
 | succ k =>
 simp only [xAl.f] at h
 have hu25 := Tryd.underlying25
 have HR0_4 := Aside0.mk hr0_4
 have HC0_4 := Aside0.mk hc0_4
 clear hr0_4 hc0_4
 have HB := Aside0.mk (Below.refl w.heap.size w)
 have H : (if a1 > 12 then (xAl.j0 k a1 true a0_0 a0_1 a0_2 a0_3 l0_4) else (xAl.j0 k a1 (a0_0.toList == ([117, 115, 101] : List UInt8)) a0_0 a0_1 a0_2 a0_3 l0_4)) = some r := h
 clear h
 have HC3 := Aside0.mk H
 clear H
 go_enter Tryd.func54, Tryd.ntmps54
 go_upto_region 1 with (first | ((with_reducible refine xB0 (N := 2) rfl ?_); (try (refine xCi (by rfl) ?_; dsimp only)); refine xB9 ?hg (N := 2) ?hd (cs := #[.string a0_0, .string a0_1, .int .i64 a0_2, .int .i64 a0_3, .slice A0_4 l0_4.length c0_4]) (t := 25) ?hr ?_; (case hd => rfl); (case hg => rfl); (case hr => first | (go_simp; done) | (go_simp; rfl)); intro gb157 hg w4 hbox hb; have n0_ := Aside0.mk (xAz (by repeat (first | (with_reducible first | exact HB.out | apply xA2 | apply xA0 | apply xA3) | exact HB.out)) hb); have n1_ := Aside0.mk (hbox); have n2_ := Aside0.mk ((by rw [hg]; exact (xBa (by repeat (first | (with_reducible first | exact HB.out | apply xA2 | apply xA0 | apply xA3) | exact HB.out))) : w.heap.size ≤ gb157)); have n3_ := Aside0.mk ((by rw [hg]; exact (xBa (by repeat (first | (with_reducible first | exact HB.out | apply xA2 | apply xA0 | apply xA3) | exact HB.out))) : w.heap.size ≤ gb157)); clear HB; have HB := n0_; have BK157 := n1_; have GW157 := n2_; have GE157 := n3_; clear n0_ n1_ n2_ n3_; clear hb hbox hg))
 (try simp only [Act.put, List.setIfInBounds_toArray, List.set_cons_zero, List.set_cons_succ])
 go_cut [14] (fun v14 wc => ∃ (kq : Nat) (x14_2 : Bool), v14 = .bool x14_2 ∧ Aside0 (xAl.j0 kq a1 x14_2 a0_0 a0_1 a0_2 a0_3 l0_4 = some r) ∧ Aside0 (kq ≤ k) ∧ Aside0 (wc.heap[gb157]? = some (.cells #[.string a0_0, .string a0_1, .int .i64 a0_2, .int .i64 a0_3, (.slice A0_4 l0_4.length c0_4)] 25 (0, 0))) ∧ Aside0 (Below w.heap.size w wc))
 case first =>
  have H := HC3.out
  clear HC3
  by_cases c5 : a1 > 12
  ·rw [if_pos c5] at H
   have c5b0 : decide (12 < a1) = true := decide_eq_true c5
   clear c5
   (first | rw [c5b0] | (simp only [xB1, xB2]; rw [c5b0]) | skip)
   have H' := Aside0.mk H
   clear H
   go_wp2
   go_meet
   case rel => exact ⟨_, (true), (by first | rfl | (simp; done) | (simp [*]; done)), H', ⟨by first | omega | exact Nat.le_refl _⟩, ⟨by (with_reducible repeat (first | refine xA7 ?_ _ | refine xAc ?_ | refine xA6 ?_ _)); exact BK157.out⟩, ⟨by repeat (first | (with_reducible first | exact HB.out | apply xA2 | apply xA0 | apply xA3 | refine xAa ?_ GE157.out) | exact HB.out)⟩⟩
  ·rw [if_neg c5] at H
   have c5b0 : decide (12 < a1) = false := decide_eq_false c5
   clear c5
   (first | rw [c5b0] | (simp only [xB1, xB2]; rw [c5b0]) | skip)
   have H' := Aside0.mk H
   clear H
   obtain ⟨hcz6_0, hcz6_1, hcz6_2, hcz6_3, hcz6_4, hfz6_0, hfz6_1, hfz6_2, hfz6_3, hfz6_4⟩ := ex5 BK157.out
   go_wp2
   go_meet
   case rel => exact ⟨_, ((a0_0.toList == ([117, 115, 101] : List UInt8))), (by first | rfl | (simp; done) | (simp [*]; done)), H', ⟨by first | omega | exact Nat.le_refl _⟩, ⟨by (with_reducible repeat (first | refine xA7 ?_ _ | refine xAc ?_ | refine xA6 ?_ _)); exact BK157.out⟩, ⟨by repeat (first | (with_reducible first | exact HB.out | apply xA2 | apply xA0 | apply xA3 | refine xAa ?_ GE157.out) | exact HB.out)⟩⟩
 case rest =>
  clear HC3
  try clear p2
  try clear c5
  try clear c5b0
  try clear hcz6_0 hcz6_1 hcz6_2 hcz6_3 hcz6_4
  try clear hfz6_0 hfz6_1 hfz6_2 hfz6_3 hfz6_4
  obtain ⟨kq, x14_2, rfl, HA, HJ2, BK157, HB⟩ := hcut
  cases kq with
  | zero => exact absurd HA.out (by simp [xAl.j0])
  | succ kj2 =>
   have H := HA.out
   clear HA
   simp only [xAl.j0] at H
   by_cases c7 : x14_2 = true
   ·subst c7
    have H1 : (if a1 ≤ 12 then ((xBf.f kj2 a0_0 a0_1 a0_2 a0_3 l0_4 (⟨#[117, 115, 101]⟩ : ByteArray)).bind fun t158 => (some t158)) else (some false)) = some r := by rw [if_pos rfl] at H; exact H
    clear H
    have H := H1
    clear H1
    by_cases c8 : a1 ≤ 12
    ·rw [if_pos c8] at H
     have c8b0 : decide (a1 ≤ 12) = true := decide_eq_true c8
     clear c8
     replace H := Option.bind_eq_some_iff.mp H
     obtain ⟨t158, A90, H⟩ := H
     replace H : (some t158) = some r := H
     have A9 := Aside0.mk A90
     clear A90
     obtain rfl := Option.some.inj H
     obtain ⟨hcz10_0, hcz10_1, hcz10_2, hcz10_3, hcz10_4, hfz10_0, hfz10_1, hfz10_2, hfz10_3, hfz10_4⟩ := ex5 BK157.out
     go_wp2_with (first | (go_at_call 81; (with_reducible refine (xBf.calls kj2 a0_0 a0_1 a0_2 a0_3 _ _ l0_4 (⟨#[117, 115, 101]⟩ : ByteArray) t158 _ ?side1 ?side2 A9.out m_ (by first | (with_reducible exact hmA_.out) | exact xCa hmA_.out (by repeat (first | (with_reducible first | exact HB.out | apply xA2 | apply xA0 | apply xA3 | refine xAa ?_ GE157.out) | exact HB.out)) | (repeat (first | exact hmA_.out | refine xC3 ?_ | refine mlen_drew ?_)))).mono ?_); (case side1 => repeat (first | exact (Kd.C_below HR0_4.out HB.out) | (with_reducible refine Kd.C_alloc ?_ _) | (with_reducible refine Kd.C_drewN ?_ _) | (with_reducible refine Kd.C_drew ?_))); (case side2 => exact HC0_4.out); rintro e w11 ⟨rfl, hb⟩; have n0_ := Aside0.mk (xAx (g := gb157) (o := .cells #[.string a0_0, .string a0_1, .int .i64 a0_2, .int .i64 a0_3, .slice A0_4 l0_4.length c0_4] 25 (0, 0)) (by (with_reducible repeat (first | refine xA7 ?_ _ | refine xAc ?_ | refine xA6 ?_ _)); exact BK157.out) hb); have n1_ := Aside0.mk (xAz (by repeat (first | (with_reducible first | exact HB.out | apply xA2 | apply xA0 | apply xA3 | refine xAa ?_ GE157.out) | exact HB.out)) hb); clear BK157; clear HB; have BK157 := n0_; have HB := n1_; clear n0_ n1_; (try clear hb); (try clear hb2); (try clear hk); (try clear hi)))
     go_ret
     exact ⟨by first | rfl | (simp <;> rfl) | (simp [*] <;> rfl), by repeat (first | (with_reducible first | exact HB.out | apply xA2 | apply xA0 | apply xA3 | refine xAa ?_ GE157.out) | exact HB.out)⟩
    ·rw [if_neg c8] at H
     have c8b0 : decide (a1 ≤ 12) = false := decide_eq_false c8
     clear c8
     obtain rfl := Option.some.inj H
     go_wp2
     go_ret
     exact ⟨by first | rfl | (simp <;> rfl) | (simp [*] <;> rfl), by repeat (first | (with_reducible first | exact HB.out | apply xA2 | apply xA0 | apply xA3 | refine xAa ?_ GE157.out) | exact HB.out)⟩
   ·replace c7 := Bool.eq_false_iff.mpr c7
    subst c7
    have H1 : (if a0_2 = 0 then (if a0_1.toList = ([] : List UInt8) then (xAl.j1 kj2 a1 ((l0_4.length : Int) == 0) a0_0 a0_1 a0_2 a0_3 l0_4) else (xAl.j1 kj2 a1 true a0_0 a0_1 a0_2 a0_3 l0_4)) else (xAl.j1 kj2 a1 true a0_0 a0_1 a0_2 a0_3 l0_4)) = some r := by rw [if_neg (show ¬ (false = true) by decide)] at H; exact H
    clear H
    have H := H1
    clear H1
    have HC12 := Aside0.mk H
    clear H
    go_upto_region 3 with (fail)
    go_cut [34] (fun v34 wc => ∃ (kq : Nat) (x34_11 : Bool), v34 = .bool x34_11 ∧ Aside0 (xAl.j1 kq a1 x34_11 a0_0 a0_1 a0_2 a0_3 l0_4 = some r) ∧ Aside0 (kq ≤ kj2) ∧ Aside0 (wc.heap[gb157]? = some (.cells #[.string a0_0, .string a0_1, .int .i64 a0_2, .int .i64 a0_3, (.slice A0_4 l0_4.length c0_4)] 25 (0, 0))) ∧ Aside0 (Below w.heap.size w wc))
    case first =>
     have H := HC12.out
     clear HC12
     by_cases c13 : a0_2 = 0
     ·rw [if_pos c13] at H
      have c13b0 : (a0_2 == 0) = true := beq_iff_eq.mpr c13
      have c13b1 : (a0_2 != 0) = false := bne_eq_false_iff_eq.mpr c13
      clear c13
      (first | rw [c13b0] | (simp only [xB1, xB2]; rw [c13b0]) | skip)
      by_cases c14 : a0_1.toList = ([] : List UInt8)
      ·rw [if_pos c14] at H
       have c14b0 : (a0_1.toList == ([] : List UInt8)) = true := beq_iff_eq.mpr c14
       have c14b1 : (a0_1.toList != ([] : List UInt8)) = false := bne_eq_false_iff_eq.mpr c14
       clear c14
       have H' := Aside0.mk H
       clear H
       obtain ⟨hcz15_0, hcz15_1, hcz15_2, hcz15_3, hcz15_4, hfz15_0, hfz15_1, hfz15_2, hfz15_3, hfz15_4⟩ := ex5 BK157.out
       go_wp2
       go_meet
       case rel => exact ⟨_, (((l0_4.length : Int) == 0)), (by first | rfl | (simp; done) | (simp [*]; done)), H', ⟨by have := HJ2.out; first | omega | exact Nat.le_refl _⟩, ⟨by (with_reducible repeat (first | refine xA7 ?_ _ | refine xAc ?_ | refine xA6 ?_ _)); exact BK157.out⟩, ⟨by repeat (first | (with_reducible first | exact HB.out | apply xA2 | apply xA0 | apply xA3 | refine xAa ?_ GE157.out) | exact HB.out)⟩⟩
      ·rw [if_neg c14] at H
       have c14b0 : (a0_1.toList == ([] : List UInt8)) = false := beq_eq_false_iff_ne.mpr c14
       have c14b1 : (a0_1.toList != ([] : List UInt8)) = true := bne_iff_ne.mpr c14
       have H' := Aside0.mk H
       clear H
       obtain ⟨hcz16_0, hcz16_1, hcz16_2, hcz16_3, hcz16_4, hfz16_0, hfz16_1, hfz16_2, hfz16_3, hfz16_4⟩ := ex5 BK157.out
       go_wp2
       go_meet
       case rel => exact ⟨_, (true), (by first | rfl | (simp; done) | (simp [*]; done)), H', ⟨by have := HJ2.out; first | omega | exact Nat.le_refl _⟩, ⟨by (with_reducible repeat (first | refine xA7 ?_ _ | refine xAc ?_ | refine xA6 ?_ _)); exact BK157.out⟩, ⟨by repeat (first | (with_reducible first | exact HB.out | apply xA2 | apply xA0 | apply xA3 | refine xAa ?_ GE157.out) | exact HB.out)⟩⟩
     ·rw [if_neg c13] at H
      have c13b0 : (a0_2 == 0) = false := beq_eq_false_iff_ne.mpr c13
      have c13b1 : (a0_2 != 0) = true := bne_iff_ne.mpr c13
      (first | rw [c13b0] | (simp only [xB1, xB2]; rw [c13b0]) | skip)
      have H' := Aside0.mk H
      clear H
      obtain ⟨hcz17_0, hcz17_1, hcz17_2, hcz17_3, hcz17_4, hfz17_0, hfz17_1, hfz17_2, hfz17_3, hfz17_4⟩ := ex5 BK157.out
      go_wp2
      go_meet
      case rel => exact ⟨_, (true), (by first | rfl | (simp; done) | (simp [*]; done)), H', ⟨by have := HJ2.out; first | omega | exact Nat.le_refl _⟩, ⟨by (with_reducible repeat (first | refine xA7 ?_ _ | refine xAc ?_ | refine xA6 ?_ _)); exact BK157.out⟩, ⟨by repeat (first | (with_reducible first | exact HB.out | apply xA2 | apply xA0 | apply xA3 | refine xAa ?_ GE157.out) | exact HB.out)⟩⟩
    case rest =>
     clear HC12
     try clear c1
     try clear p2
     try clear c5
     try clear c5b0
     try clear c7
     try clear c8
     try clear c8b0
     try clear c13
     try clear c13b0
     try clear c13b1
     try clear c14
     try clear c14b0
     try clear c14b1
     try clear hcz10_0 hcz10_1 hcz10_2 hcz10_3 hcz10_4
     try clear hcz15_0 hcz15_1 hcz15_2 hcz15_3 hcz15_4
     try clear hcz16_0 hcz16_1 hcz16_2 hcz16_3 hcz16_4
     try clear hcz17_0 hcz17_1 hcz17_2 hcz17_3 hcz17_4
     try clear hcz6_0 hcz6_1 hcz6_2 hcz6_3 hcz6_4
     try clear hfz10_0 hfz10_1 hfz10_2 hfz10_3 hfz10_4
     try clear hfz15_0 hfz15_1 hfz15_2 hfz15_3 hfz15_4
     try clear hfz16_0 hfz16_1 hfz16_2 hfz16_3 hfz16_4
     try clear hfz17_0 hfz17_1 hfz17_2 hfz17_3 hfz17_4
     try clear hfz6_0 hfz6_1 hfz6_2 hfz6_3 hfz6_4
     try clear p2
     obtain ⟨kq, x34_11, rfl, HA, HJ11, BK157, HB⟩ := hcut
     cases kq with
     | zero => exact absurd HA.out (by simp [xAl.j1])
     | succ kj11 =>
      have H := HA.out
      clear HA
      simp only [xAl.j1] at H
      by_cases c18 : x34_11 = true
      ·subst c18
       have H1 : (some false) = some r := by rw [if_pos rfl] at H; exact H
       clear H
       have H := H1
       clear H1
       obtain rfl := Option.some.inj H
       go_wp2
       go_ret
       exact ⟨by first | rfl | (simp <;> rfl) | (simp [*] <;> rfl), by repeat (first | (with_reducible first | exact HB.out | apply xA2 | apply xA0 | apply xA3 | refine xAa ?_ GE157.out) | exact HB.out)⟩
      ·replace c18 := Bool.eq_false_iff.mpr c18
       subst c18
       have H1 : (if a0_0.toList = ([108, 105, 110, 101, 97, 114] : List UInt8) then (if (l0_4.length : Int) = 3 then (if 1 < (l0_4.length : Int) then ((xBf.f kj11 ((xAd l0_4 1).f0) ((xAd l0_4 1).f1) ((xAd l0_4 1).f2) ((xAd l0_4 1).f3) ((xAd l0_4 1).f4) (⟨#[110, 117, 109]⟩ : ByteArray)).bind fun t160 => (if t160 = true then (if 2 < (l0_4.length : Int) then ((xBf.f kj11 ((xAd l0_4 2).f0) ((xAd l0_4 2).f1) ((xAd l0_4 2).f2) ((xAd l0_4 2).f3) ((xAd l0_4 2).f4) (⟨#[110, 117, 109]⟩ : ByteArray)).bind fun t162 => (xAl.j3 kj11 a1 1 t162 a0_0 a0_1 a0_2 a0_3 l0_4)) else (none)) else (xAl.j3 kj11 a1 1 false a0_0 a0_1 a0_2 a0_3 l0_4))) else (none)) else (xAl.j3 kj11 a1 1 false a0_0 a0_1 a0_2 a0_3 l0_4)) else (if a0_0.toList = ([115, 110, 97, 112, 115, 104, 111, 116] : List UInt8) then (if (l0_4.length : Int) = 3 then (if 2 < (l0_4.length : Int) then ((xBf.f kj11 ((xAd l0_4 2).f0) ((xAd l0_4 2).f1) ((xAd l0_4 2).f2) ((xAd l0_4 2).f3) ((xAd l0_4 2).f4) (⟨#[110, 117, 109]⟩ : ByteArray)).bind fun t164 => (xAl.j3 kj11 a1 2 t164 a0_0 a0_1 a0_2 a0_3 l0_4)) else (none)) else (xAl.j3 kj11 a1 2 false a0_0 a0_1 a0_2 a0_3 l0_4)) else (if a0_0.toList = ([99, 114, 121, 112, 116] : List UInt8) then (xAl.j2 kj11 a1 1 true a0_0 (a0_0.toList == ([99, 114, 121, 112, 116] : List UInt8)) a0_0 a0_1 a0_2 a0_3 l0_4) else (if a0_0.toList = ([105, 110, 116, 101, 103, 114, 105, 116, 121] : List UInt8) then (xAl.j2 kj11 a1 1 true a0_0 (a0_0.toList == ([105, 110, 116, 101, 103, 114, 105, 116, 121] : List UInt8)) a0_0 a0_1 a0_2 a0_3 l0_4) else (xAl.j2 kj11 a1 1 true a0_0 (a0_0.toList == ([118, 101, 114, 105, 116, 121] : List UInt8)) a0_0 a0_1 a0_2 a0_3 l0_4))))) = some r := by rw [if_neg (show ¬ (false = true) by decide)] at H; exact H
       clear H
       have H := H1
       clear H1
       have HC19 := Aside0.mk H
       clear H
       obtain ⟨hcz20_0, hcz20_1, hcz20_2, hcz20_3, hcz20_4, hfz20_0, hfz20_1, hfz20_2, hfz20_3, hfz20_4⟩ := ex5 BK157.out
       go_upto_block 0 with (fail)
       go_cut [5, 6] (fun v5 v6 wc => ∃ (kq : Nat) (x5_18 : Int) (x6_18 : Bool), v5 = .int .i64 x5_18 ∧ v6 = .bool x6_18 ∧ Aside0 (xAl.j3 kq a1 x5_18 x6_18 a0_0 a0_1 a0_2 a0_3 l0_4 = some r) ∧ Aside0 (kq ≤ kj11) ∧ Aside0 (wc.heap[gb157]? = some (.cells #[.string a0_0, .string a0_1, .int .i64 a0_2, .int .i64 a0_3, (.slice A0_4 l0_4.length c0_4)] 25 (0, 0))) ∧ Aside0 (Below w.heap.size w wc))
       case first =>
        have H := HC19.out
        clear HC19
        by_cases c21 : a0_0.toList = ([108, 105, 110, 101, 97, 114] : List UInt8)
        ·rw [if_pos c21] at H
         have c21b0 : (a0_0.toList == ([108, 105, 110, 101, 97, 114] : List UInt8)) = true := beq_iff_eq.mpr c21
         have c21b1 : (a0_0.toList != ([108, 105, 110, 101, 97, 114] : List UInt8)) = false := bne_eq_false_iff_eq.mpr c21
         clear c21
         (first | rw [c21b0] | (simp only [xB1, xB2]; rw [c21b0]) | skip)
         by_cases c22 : (l0_4.length : Int) = 3
         ·rw [if_pos c22] at H
          have c22b0 : ((l0_4.length : Int) == 3) = true := beq_iff_eq.mpr c22
          have c22b1 : ((l0_4.length : Int) != 3) = false := bne_eq_false_iff_eq.mpr c22
          clear c22
          by_cases c23 : 1 < (l0_4.length : Int)
          ·rw [if_pos c23] at H
           have c23b0 : decide (1 < (l0_4.length : Int)) = true := decide_eq_true c23
           have c23b1 : decide (1 < l0_4.length) = true := decide_eq_true (by omega)
           clear c23
           replace H := Option.bind_eq_some_iff.mp H
           obtain ⟨t160, A240, H⟩ := H
           replace H : (if t160 = true then (if 2 < (l0_4.length : Int) then ((xBf.f kj11 ((xAd l0_4 2).f0) ((xAd l0_4 2).f1) ((xAd l0_4 2).f2) ((xAd l0_4 2).f3) ((xAd l0_4 2).f4) (⟨#[110, 117, 109]⟩ : ByteArray)).bind fun t162 => (xAl.j3 kj11 a1 1 t162 a0_0 a0_1 a0_2 a0_3 l0_4)) else (none)) else (xAl.j3 kj11 a1 1 false a0_0 a0_1 a0_2 a0_3 l0_4)) = some r := H
           have A24 := Aside0.mk A240
           clear A240
           by_cases c25 : t160 = true
           ·subst c25
            have H1 : (if 2 < (l0_4.length : Int) then ((xBf.f kj11 ((xAd l0_4 2).f0) ((xAd l0_4 2).f1) ((xAd l0_4 2).f2) ((xAd l0_4 2).f3) ((xAd l0_4 2).f4) (⟨#[110, 117, 109]⟩ : ByteArray)).bind fun t162 => (xAl.j3 kj11 a1 1 t162 a0_0 a0_1 a0_2 a0_3 l0_4)) else (none)) = some r := by rw [if_pos rfl] at H; exact H
            clear H
            have H := H1
            clear H1
            by_cases c26 : 2 < (l0_4.length : Int)
            ·rw [if_pos c26] at H
             have c26b0 : decide (2 < (l0_4.length : Int)) = true := decide_eq_true c26
             have c26b1 : decide (2 < l0_4.length) = true := decide_eq_true (by omega)
             clear c26
             replace H := Option.bind_eq_some_iff.mp H
             obtain ⟨t162, A270, H⟩ := H
             replace H : (xAl.j3 kj11 a1 1 t162 a0_0 a0_1 a0_2 a0_3 l0_4) = some r := H
             have A27 := Aside0.mk A270
             clear A270
             have H' := Aside0.mk H
             clear H
             obtain ⟨hcz28_0, hcz28_1, hcz28_2, hcz28_3, hcz28_4, hfz28_0, hfz28_1, hfz28_2, hfz28_3, hfz28_4⟩ := ex5 BK157.out
             have p159 : 0 ≤ (1 : Int) := (by omega)
             have q159 : 1 < (l0_4.length : Int) := of_decide_eq_true (by first | (with_reducible assumption) | assumption)
             obtain ⟨ad159, A159_4, c159_4, e159, hx159_0, hx159_1, hx159_2, hx159_3, hx159_4, hl159_4, hi159_4⟩ := xEg HR0_4.out 1 p159 q159
             cases e159
             (try simp only [show (1 : Int).toNat = 1 from rfl, Nat.reduceMul, Nat.reduceEqDiff, Go.Addr.add, ↓reduceIte] at hx159_0 hx159_1 hx159_2 hx159_3 hx159_4)
             have qi159 : (1 < l0_4.length) = True := eq_true (by omega)
             (try rw [show ((1 : Int)).toNat = 1 from rfl] at hx159_0)
             (try rw [show 1 * 5 = 5 from rfl] at hx159_0)
             (try rw [show ((1 : Int)).toNat = 1 from rfl] at hx159_1)
             (try rw [show 1 * 5 = 5 from rfl] at hx159_1)
             (try rw [show ((1 : Int)).toNat = 1 from rfl] at hx159_2)
             (try rw [show 1 * 5 = 5 from rfl] at hx159_2)
             (try rw [show ((1 : Int)).toNat = 1 from rfl] at hx159_3)
             (try rw [show 1 * 5 = 5 from rfl] at hx159_3)
             (try rw [show ((1 : Int)).toNat = 1 from rfl] at hx159_4)
             (try rw [show 1 * 5 = 5 from rfl] at hx159_4)
             replace hx159_0 := (HB.out.cell (World.block_lt_of_cell? w _ hx159_0)).trans hx159_0
             replace hx159_1 := (HB.out.cell (World.block_lt_of_cell? w _ hx159_1)).trans hx159_1
             replace hx159_2 := (HB.out.cell (World.block_lt_of_cell? w _ hx159_2)).trans hx159_2
             replace hx159_3 := (HB.out.cell (World.block_lt_of_cell? w _ hx159_3)).trans hx159_3
             replace hx159_4 := (HB.out.cell (World.block_lt_of_cell? w _ hx159_4)).trans hx159_4
             have HR159_4 := Aside0.mk hi159_4
             have HC159_4 := Aside0.mk hl159_4
             clear hi159_4 hl159_4
             replace p159 := eq_true p159
             replace q159 := eq_true q159
             go_wp2_with (first | (go_at_call 81; (with_reducible refine (xBf.calls kj11 ((xAd l0_4 1).f0) ((xAd l0_4 1).f1) ((xAd l0_4 1).f2) ((xAd l0_4 1).f3) _ _ ((xAd l0_4 1).f4) (⟨#[110, 117, 109]⟩ : ByteArray) true _ ?side1 ?side2 A24.out m_ (by first | (with_reducible exact hmA_.out) | exact xCa hmA_.out (by repeat (first | (with_reducible first | exact HB.out | apply xA2 | apply xA0 | apply xA3 | refine xAa ?_ GE157.out) | exact HB.out)) | (repeat (first | exact hmA_.out | refine xC3 ?_ | refine mlen_drew ?_)))).mono ?_); (case side1 => repeat (first | exact (Kd.C_below HR159_4.out HB.out) | (with_reducible refine Kd.C_alloc ?_ _) | (with_reducible refine Kd.C_drewN ?_ _) | (with_reducible refine Kd.C_drew ?_))); (case side2 => exact HC159_4.out); rintro e w29 ⟨rfl, hb⟩; have n0_ := Aside0.mk (xAx (g := gb157) (o := .cells #[.string a0_0, .string a0_1, .int .i64 a0_2, .int .i64 a0_3, .slice (some ad159) l0_4.length c0_4] 25 (0, 0)) (by (with_reducible repeat (first | refine xA7 ?_ _ | refine xAc ?_ | refine xA6 ?_ _)); exact BK157.out) hb); have n1_ := Aside0.mk (xAz (by repeat (first | (with_reducible first | exact HB.out | apply xA2 | apply xA0 | apply xA3 | refine xAa ?_ GE157.out) | exact HB.out)) hb); clear BK157; clear HB; have BK157 := n0_; have HB := n1_; clear n0_ n1_; (try clear hb); (try clear hb2); (try clear hk); (try clear hi); obtain ⟨hcz30_0, hcz30_1, hcz30_2, hcz30_3, hcz30_4, hfz30_0, hfz30_1, hfz30_2, hfz30_3, hfz30_4⟩ := ex5 BK157.out; have p161 : 0 ≤ (2 : Int) := (by omega); have q161 : 2 < (l0_4.length : Int) := of_decide_eq_true (by first | (with_reducible assumption) | assumption); obtain ⟨ad161, A161_4, c161_4, e161, hx161_0, hx161_1, hx161_2, hx161_3, hx161_4, hl161_4, hi161_4⟩ := xEg HR0_4.out 2 p161 q161; obtain rfl : ad159 = ad161 := (by injection e161); (try simp only [show (2 : Int).toNat = 2 from rfl, Nat.reduceMul, Nat.reduceEqDiff, Go.Addr.add, ↓reduceIte] at hx161_0 hx161_1 hx161_2 hx161_3 hx161_4); have qi161 : (2 < l0_4.length) = True := eq_true (by omega); (try rw [show ((2 : Int)).toNat = 2 from rfl] at hx161_0); (try rw [show 2 * 5 = 10 from rfl] at hx161_0); (try rw [show ((2 : Int)).toNat = 2 from rfl] at hx161_1); (try rw [show 2 * 5 = 10 from rfl] at hx161_1); (try rw [show ((2 : Int)).toNat = 2 from rfl] at hx161_2); (try rw [show 2 * 5 = 10 from rfl] at hx161_2); (try rw [show ((2 : Int)).toNat = 2 from rfl] at hx161_3); (try rw [show 2 * 5 = 10 from rfl] at hx161_3); (try rw [show ((2 : Int)).toNat = 2 from rfl] at hx161_4); (try rw [show 2 * 5 = 10 from rfl] at hx161_4); replace hx161_0 := (HB.out.cell (World.block_lt_of_cell? w _ hx161_0)).trans hx161_0; replace hx161_1 := (HB.out.cell (World.block_lt_of_cell? w _ hx161_1)).trans hx161_1; replace hx161_2 := (HB.out.cell (World.block_lt_of_cell? w _ hx161_2)).trans hx161_2; replace hx161_3 := (HB.out.cell (World.block_lt_of_cell? w _ hx161_3)).trans hx161_3; replace hx161_4 := (HB.out.cell (World.block_lt_of_cell? w _ hx161_4)).trans hx161_4; have HR161_4 := Aside0.mk hi161_4; have HC161_4 := Aside0.mk hl161_4; clear hi161_4 hl161_4; replace p161 := eq_true p161; replace q161 := eq_true q161) | (go_at_call 81; (with_reducible refine (xBf.calls kj11 ((xAd l0_4 2).f0) ((xAd l0_4 2).f1) ((xAd l0_4 2).f2) ((xAd l0_4 2).f3) _ _ ((xAd l0_4 2).f4) (⟨#[110, 117, 109]⟩ : ByteArray) t162 _ ?side1 ?side2 A27.out m_ (by first | (with_reducible exact hmA_.out) | exact xCa hmA_.out (by repeat (first | (with_reducible first | exact HB.out | apply xA2 | apply xA0 | apply xA3 | refine xAa ?_ GE157.out) | exact HB.out)) | (repeat (first | exact hmA_.out | refine xC3 ?_ | refine mlen_drew ?_)))).mono ?_); (case side1 => repeat (first | exact (Kd.C_below HR161_4.out HB.out) | (with_reducible refine Kd.C_alloc ?_ _) | (with_reducible refine Kd.C_drewN ?_ _) | (with_reducible refine Kd.C_drew ?_))); (case side2 => exact HC161_4.out); rintro e w31 ⟨rfl, hb⟩; have n0_ := Aside0.mk (xAx (g := gb157) (o := .cells #[.string a0_0, .string a0_1, .int .i64 a0_2, .int .i64 a0_3, .slice (some ad159) l0_4.length c0_4] 25 (0, 0)) (by (with_reducible repeat (first | refine xA7 ?_ _ | refine xAc ?_ | refine xA6 ?_ _)); exact BK157.out) hb); have n1_ := Aside0.mk (xAz (by repeat (first | (with_reducible first | exact HB.out | apply xA2 | apply xA0 | apply xA3 | refine xAa ?_ GE157.out) | exact HB.out)) hb); clear BK157; clear HB; have BK157 := n0_; have HB := n1_; clear n0_ n1_; (try clear hb); (try clear hb2); (try clear hk); (try clear hi)))
             go_meet
             case rel => exact ⟨_, (1), (t162), (by first | rfl | (simp; done) | (simp [*]; done)), (by first | rfl | (simp; done) | (simp [*]; done)), H', ⟨by have := HJ2.out; have := HJ11.out; first | omega | exact Nat.le_refl _⟩, ⟨by (with_reducible repeat (first | refine xA7 ?_ _ | refine xAc ?_ | refine xA6 ?_ _)); exact BK157.out⟩, ⟨by repeat (first | (with_reducible first | exact HB.out | apply xA2 | apply xA0 | apply xA3 | refine xAa ?_ GE157.out) | exact HB.out)⟩⟩
            ·rw [if_neg c26] at H
             exact absurd H (by simp)
           ·replace c25 := Bool.eq_false_iff.mpr c25
            subst c25
            have H1 : (xAl.j3 kj11 a1 1 false a0_0 a0_1 a0_2 a0_3 l0_4) = some r := by rw [if_neg (show ¬ (false = true) by decide)] at H; exact H
            clear H
            have H := H1
            clear H1
            have H' := Aside0.mk H
            clear H
            obtain ⟨hcz32_0, hcz32_1, hcz32_2, hcz32_3, hcz32_4, hfz32_0, hfz32_1, hfz32_2, hfz32_3, hfz32_4⟩ := ex5 BK157.out
            have p159 : 0 ≤ (1 : Int) := (by omega)
            have q159 : 1 < (l0_4.length : Int) := of_decide_eq_true (by first | (with_reducible assumption) | assumption)
            obtain ⟨ad159, A159_4, c159_4, e159, hx159_0, hx159_1, hx159_2, hx159_3, hx159_4, hl159_4, hi159_4⟩ := xEg HR0_4.out 1 p159 q159
            cases e159
            (try simp only [show (1 : Int).toNat = 1 from rfl, Nat.reduceMul, Nat.reduceEqDiff, Go.Addr.add, ↓reduceIte] at hx159_0 hx159_1 hx159_2 hx159_3 hx159_4)
            have qi159 : (1 < l0_4.length) = True := eq_true (by omega)
            (try rw [show ((1 : Int)).toNat = 1 from rfl] at hx159_0)
            (try rw [show 1 * 5 = 5 from rfl] at hx159_0)
            (try rw [show ((1 : Int)).toNat = 1 from rfl] at hx159_1)
            (try rw [show 1 * 5 = 5 from rfl] at hx159_1)
            (try rw [show ((1 : Int)).toNat = 1 from rfl] at hx159_2)
            (try rw [show 1 * 5 = 5 from rfl] at hx159_2)
            (try rw [show ((1 : Int)).toNat = 1 from rfl] at hx159_3)
            (try rw [show 1 * 5 = 5 from rfl] at hx159_3)
            (try rw [show ((1 : Int)).toNat = 1 from rfl] at hx159_4)
            (try rw [show 1 * 5 = 5 from rfl] at hx159_4)
            replace hx159_0 := (HB.out.cell (World.block_lt_of_cell? w _ hx159_0)).trans hx159_0
            replace hx159_1 := (HB.out.cell (World.block_lt_of_cell? w _ hx159_1)).trans hx159_1
            replace hx159_2 := (HB.out.cell (World.block_lt_of_cell? w _ hx159_2)).trans hx159_2
            replace hx159_3 := (HB.out.cell (World.block_lt_of_cell? w _ hx159_3)).trans hx159_3
            replace hx159_4 := (HB.out.cell (World.block_lt_of_cell? w _ hx159_4)).trans hx159_4
            have HR159_4 := Aside0.mk hi159_4
            have HC159_4 := Aside0.mk hl159_4
            clear hi159_4 hl159_4
            replace p159 := eq_true p159
            replace q159 := eq_true q159
            go_wp2_with (first | (go_at_call 81; (with_reducible refine (xBf.calls kj11 ((xAd l0_4 1).f0) ((xAd l0_4 1).f1) ((xAd l0_4 1).f2) ((xAd l0_4 1).f3) _ _ ((xAd l0_4 1).f4) (⟨#[110, 117, 109]⟩ : ByteArray) false _ ?side1 ?side2 A24.out m_ (by first | (with_reducible exact hmA_.out) | exact xCa hmA_.out (by repeat (first | (with_reducible first | exact HB.out | apply xA2 | apply xA0 | apply xA3 | refine xAa ?_ GE157.out) | exact HB.out)) | (repeat (first | exact hmA_.out | refine xC3 ?_ | refine mlen_drew ?_)))).mono ?_); (case side1 => repeat (first | exact (Kd.C_below HR159_4.out HB.out) | (with_reducible refine Kd.C_alloc ?_ _) | (with_reducible refine Kd.C_drewN ?_ _) | (with_reducible refine Kd.C_drew ?_))); (case side2 => exact HC159_4.out); rintro e w33 ⟨rfl, hb⟩; have n0_ := Aside0.mk (xAx (g := gb157) (o := .cells #[.string a0_0, .string a0_1, .int .i64 a0_2, .int .i64 a0_3, .slice (some ad159) l0_4.length c0_4] 25 (0, 0)) (by (with_reducible repeat (first | refine xA7 ?_ _ | refine xAc ?_ | refine xA6 ?_ _)); exact BK157.out) hb); have n1_ := Aside0.mk (xAz (by repeat (first | (with_reducible first | exact HB.out | apply xA2 | apply xA0 | apply xA3 | refine xAa ?_ GE157.out) | exact HB.out)) hb); clear BK157; clear HB; have BK157 := n0_; have HB := n1_; clear n0_ n1_; (try clear hb); (try clear hb2); (try clear hk); (try clear hi)))
            go_meet
            case rel => exact ⟨_, (1), (false), (by first | rfl | (simp; done) | (simp [*]; done)), (by first | rfl | (simp; done) | (simp [*]; done)), H', ⟨by have := HJ2.out; have := HJ11.out; first | omega | exact Nat.le_refl _⟩, ⟨by (with_reducible repeat (first | refine xA7 ?_ _ | refine xAc ?_ | refine xA6 ?_ _)); exact BK157.out⟩, ⟨by repeat (first | (with_reducible first | exact HB.out | apply xA2 | apply xA0 | apply xA3 | refine xAa ?_ GE157.out) | exact HB.out)⟩⟩
          ·rw [if_neg c23] at H
           exact absurd H (by simp)
         ·rw [if_neg c22] at H
          have c22b0 : ((l0_4.length : Int) == 3) = false := beq_eq_false_iff_ne.mpr c22
          have c22b1 : ((l0_4.length : Int) != 3) = true := bne_iff_ne.mpr c22
          have H' := Aside0.mk H
          clear H
          obtain ⟨hcz34_0, hcz34_1, hcz34_2, hcz34_3, hcz34_4, hfz34_0, hfz34_1, hfz34_2, hfz34_3, hfz34_4⟩ := ex5 BK157.out
          go_wp2
          go_meet
          case rel => exact ⟨_, (1), (false), (by first | rfl | (simp; done) | (simp [*]; done)), (by first | rfl | (simp; done) | (simp [*]; done)), H', ⟨by have := HJ2.out; have := HJ11.out; first | omega | exact Nat.le_refl _⟩, ⟨by (with_reducible repeat (first | refine xA7 ?_ _ | refine xAc ?_ | refine xA6 ?_ _)); exact BK157.out⟩, ⟨by repeat (first | (with_reducible first | exact HB.out | apply xA2 | apply xA0 | apply xA3 | refine xAa ?_ GE157.out) | exact HB.out)⟩⟩
        ·rw [if_neg c21] at H
         have c21b0 : (a0_0.toList == ([108, 105, 110, 101, 97, 114] : List UInt8)) = false := beq_eq_false_iff_ne.mpr c21
         have c21b1 : (a0_0.toList != ([108, 105, 110, 101, 97, 114] : List UInt8)) = true := bne_iff_ne.mpr c21
         (first | rw [c21b0] | (simp only [xB1, xB2]; rw [c21b0]) | skip)
         by_cases c35 : a0_0.toList = ([115, 110, 97, 112, 115, 104, 111, 116] : List UInt8)
         ·rw [if_pos c35] at H
          have c35b0 : (a0_0.toList == ([115, 110, 97, 112, 115, 104, 111, 116] : List UInt8)) = true := beq_iff_eq.mpr c35
          have c35b1 : (a0_0.toList != ([115, 110, 97, 112, 115, 104, 111, 116] : List UInt8)) = false := bne_eq_false_iff_eq.mpr c35
          clear c35
          by_cases c36 : (l0_4.length : Int) = 3
          ·rw [if_pos c36] at H
           have c36b0 : ((l0_4.length : Int) == 3) = true := beq_iff_eq.mpr c36
           have c36b1 : ((l0_4.length : Int) != 3) = false := bne_eq_false_iff_eq.mpr c36
           clear c36
           by_cases c37 : 2 < (l0_4.length : Int)
           ·rw [if_pos c37] at H
            have c37b0 : decide (2 < (l0_4.length : Int)) = true := decide_eq_true c37
            have c37b1 : decide (2 < l0_4.length) = true := decide_eq_true (by omega)
            clear c37
            replace H := Option.bind_eq_some_iff.mp H
            obtain ⟨t164, A380, H⟩ := H
            replace H : (xAl.j3 kj11 a1 2 t164 a0_0 a0_1 a0_2 a0_3 l0_4) = some r := H
            have A38 := Aside0.mk A380
            clear A380
            have H' := Aside0.mk H
            clear H
            obtain ⟨hcz39_0, hcz39_1, hcz39_2, hcz39_3, hcz39_4, hfz39_0, hfz39_1, hfz39_2, hfz39_3, hfz39_4⟩ := ex5 BK157.out
            have p163 : 0 ≤ (2 : Int) := (by omega)
            have q163 : 2 < (l0_4.length : Int) := of_decide_eq_true (by first | (with_reducible assumption) | assumption)
            obtain ⟨ad163, A163_4, c163_4, e163, hx163_0, hx163_1, hx163_2, hx163_3, hx163_4, hl163_4, hi163_4⟩ := xEg HR0_4.out 2 p163 q163
            cases e163
            (try simp only [show (2 : Int).toNat = 2 from rfl, Nat.reduceMul, Nat.reduceEqDiff, Go.Addr.add, ↓reduceIte] at hx163_0 hx163_1 hx163_2 hx163_3 hx163_4)
            have qi163 : (2 < l0_4.length) = True := eq_true (by omega)
            (try rw [show ((2 : Int)).toNat = 2 from rfl] at hx163_0)
            (try rw [show 2 * 5 = 10 from rfl] at hx163_0)
            (try rw [show ((2 : Int)).toNat = 2 from rfl] at hx163_1)
            (try rw [show 2 * 5 = 10 from rfl] at hx163_1)
            (try rw [show ((2 : Int)).toNat = 2 from rfl] at hx163_2)
            (try rw [show 2 * 5 = 10 from rfl] at hx163_2)
            (try rw [show ((2 : Int)).toNat = 2 from rfl] at hx163_3)
            (try rw [show 2 * 5 = 10 from rfl] at hx163_3)
            (try rw [show ((2 : Int)).toNat = 2 from rfl] at hx163_4)
            (try rw [show 2 * 5 = 10 from rfl] at hx163_4)
            replace hx163_0 := (HB.out.cell (World.block_lt_of_cell? w _ hx163_0)).trans hx163_0
            replace hx163_1 := (HB.out.cell (World.block_lt_of_cell? w _ hx163_1)).trans hx163_1
            replace hx163_2 := (HB.out.cell (World.block_lt_of_cell? w _ hx163_2)).trans hx163_2
            replace hx163_3 := (HB.out.cell (World.block_lt_of_cell? w _ hx163_3)).trans hx163_3
            replace hx163_4 := (HB.out.cell (World.block_lt_of_cell? w _ hx163_4)).trans hx163_4
            have HR163_4 := Aside0.mk hi163_4
            have HC163_4 := Aside0.mk hl163_4
            clear hi163_4 hl163_4
            replace p163 := eq_true p163
            replace q163 := eq_true q163
            go_wp2_with (first | (go_at_call 81; (with_reducible refine (xBf.calls kj11 ((xAd l0_4 2).f0) ((xAd l0_4 2).f1) ((xAd l0_4 2).f2) ((xAd l0_4 2).f3) _ _ ((xAd l0_4 2).f4) (⟨#[110, 117, 109]⟩ : ByteArray) t164 _ ?side1 ?side2 A38.out m_ (by first | (with_reducible exact hmA_.out) | exact xCa hmA_.out (by repeat (first | (with_reducible first | exact HB.out | apply xA2 | apply xA0 | apply xA3 | refine xAa ?_ GE157.out) | exact HB.out)) | (repeat (first | exact hmA_.out | refine xC3 ?_ | refine mlen_drew ?_)))).mono ?_); (case side1 => repeat (first | exact (Kd.C_below HR163_4.out HB.out) | (with_reducible refine Kd.C_alloc ?_ _) | (with_reducible refine Kd.C_drewN ?_ _) | (with_reducible refine Kd.C_drew ?_))); (case side2 => exact HC163_4.out); rintro e w40 ⟨rfl, hb⟩; have n0_ := Aside0.mk (xAx (g := gb157) (o := .cells #[.string a0_0, .string a0_1, .int .i64 a0_2, .int .i64 a0_3, .slice (some ad163) l0_4.length c0_4] 25 (0, 0)) (by (with_reducible repeat (first | refine xA7 ?_ _ | refine xAc ?_ | refine xA6 ?_ _)); exact BK157.out) hb); have n1_ := Aside0.mk (xAz (by repeat (first | (with_reducible first | exact HB.out | apply xA2 | apply xA0 | apply xA3 | refine xAa ?_ GE157.out) | exact HB.out)) hb); clear BK157; clear HB; have BK157 := n0_; have HB := n1_; clear n0_ n1_; (try clear hb); (try clear hb2); (try clear hk); (try clear hi)))
            go_meet
            case rel => exact ⟨_, (2), (t164), (by first | rfl | (simp; done) | (simp [*]; done)), (by first | rfl | (simp; done) | (simp [*]; done)), H', ⟨by have := HJ2.out; have := HJ11.out; first | omega | exact Nat.le_refl _⟩, ⟨by (with_reducible repeat (first | refine xA7 ?_ _ | refine xAc ?_ | refine xA6 ?_ _)); exact BK157.out⟩, ⟨by repeat (first | (with_reducible first | exact HB.out | apply xA2 | apply xA0 | apply xA3 | refine xAa ?_ GE157.out) | exact HB.out)⟩⟩
           ·rw [if_neg c37] at H
            exact absurd H (by simp)
          ·rw [if_neg c36] at H
           have c36b0 : ((l0_4.length : Int) == 3) = false := beq_eq_false_iff_ne.mpr c36
           have c36b1 : ((l0_4.length : Int) != 3) = true := bne_iff_ne.mpr c36
           have H' := Aside0.mk H
           clear H
           obtain ⟨hcz41_0, hcz41_1, hcz41_2, hcz41_3, hcz41_4, hfz41_0, hfz41_1, hfz41_2, hfz41_3, hfz41_4⟩ := ex5 BK157.out
           go_wp2
           go_meet
           case rel => exact ⟨_, (2), (false), (by first | rfl | (simp; done) | (simp [*]; done)), (by first | rfl | (simp; done) | (simp [*]; done)), H', ⟨by have := HJ2.out; have := HJ11.out; first | omega | exact Nat.le_refl _⟩, ⟨by (with_reducible repeat (first | refine xA7 ?_ _ | refine xAc ?_ | refine xA6 ?_ _)); exact BK157.out⟩, ⟨by repeat (first | (with_reducible first | exact HB.out | apply xA2 | apply xA0 | apply xA3 | refine xAa ?_ GE157.out) | exact HB.out)⟩⟩
         ·rw [if_neg c35] at H
          have c35b0 : (a0_0.toList == ([115, 110, 97, 112, 115, 104, 111, 116] : List UInt8)) = false := beq_eq_false_iff_ne.mpr c35
          have c35b1 : (a0_0.toList != ([115, 110, 97, 112, 115, 104, 111, 116] : List UInt8)) = true := bne_iff_ne.mpr c35
          have HC42 := Aside0.mk H
          clear H
          go_upto_if 70 with (fail)
          go_cut [70] (fun v70 wc => ∃ (kq : Nat) (x70_41 : Bool), v70 = .bool x70_41 ∧ Aside0 (xAl.j2 kq a1 1 true a0_0 x70_41 a0_0 a0_1 a0_2 a0_3 l0_4 = some r) ∧ Aside0 (kq ≤ kj11) ∧ Aside0 (wc.heap[gb157]? = some (.cells #[.string a0_0, .string a0_1, .int .i64 a0_2, .int .i64 a0_3, (.slice A0_4 l0_4.length c0_4)] 25 (0, 0))) ∧ Aside0 (Below w.heap.size w wc))
          case first =>
           have H := HC42.out
           clear HC42
           by_cases c43 : a0_0.toList = ([99, 114, 121, 112, 116] : List UInt8)
           ·rw [if_pos c43] at H
            have c43b0 : (a0_0.toList == ([99, 114, 121, 112, 116] : List UInt8)) = true := beq_iff_eq.mpr c43
            have c43b1 : (a0_0.toList != ([99, 114, 121, 112, 116] : List UInt8)) = false := bne_eq_false_iff_eq.mpr c43
            clear c43
            (first | rw [c43b0] | (simp only [xB1, xB2]; rw [c43b0]) | skip)
            have H' := Aside0.mk H
            clear H
            go_wp2
            go_meet
            case rel => exact ⟨_, ((a0_0.toList == ([99, 114, 121, 112, 116] : List UInt8))), (by first | rfl | (simp; done) | (simp [*]; done)), H', ⟨by have := HJ2.out; have := HJ11.out; first | omega | exact Nat.le_refl _⟩, ⟨by (with_reducible repeat (first | refine xA7 ?_ _ | refine xAc ?_ | refine xA6 ?_ _)); exact BK157.out⟩, ⟨by repeat (first | (with_reducible first | exact HB.out | apply xA2 | apply xA0 | apply xA3 | refine xAa ?_ GE157.out) | exact HB.out)⟩⟩
           ·rw [if_neg c43] at H
            have c43b0 : (a0_0.toList == ([99, 114, 121, 112, 116] : List UInt8)) = false := beq_eq_false_iff_ne.mpr c43
            have c43b1 : (a0_0.toList != ([99, 114, 121, 112, 116] : List UInt8)) = true := bne_iff_ne.mpr c43
            (first | rw [c43b0] | (simp only [xB1, xB2]; rw [c43b0]) | skip)
            by_cases c44 : a0_0.toList = ([105, 110, 116, 101, 103, 114, 105, 116, 121] : List UInt8)
            ·rw [if_pos c44] at H
             have c44b0 : (a0_0.toList == ([105, 110, 116, 101, 103, 114, 105, 116, 121] : List UInt8)) = true := beq_iff_eq.mpr c44
             have c44b1 : (a0_0.toList != ([105, 110, 116, 101, 103, 114, 105, 116, 121] : List UInt8)) = false := bne_eq_false_iff_eq.mpr c44
             clear c44
             have H' := Aside0.mk H
             clear H
             go_wp2
             go_meet
             case rel => exact ⟨_, ((a0_0.toList == ([105, 110, 116, 101, 103, 114, 105, 116, 121] : List UInt8))), (by first | rfl | (simp; done) | (simp [*]; done)), H', ⟨by have := HJ2.out; have := HJ11.out; first | omega | exact Nat.le_refl _⟩, ⟨by (with_reducible repeat (first | refine xA7 ?_ _ | refine xAc ?_ | refine xA6 ?_ _)); exact BK157.out⟩, ⟨by repeat (first | (with_reducible first | exact HB.out | apply xA2 | apply xA0 | apply xA3 | refine xAa ?_ GE157.out) | exact HB.out)⟩⟩
            ·rw [if_neg c44] at H
             have c44b0 : (a0_0.toList == ([105, 110, 116, 101, 103, 114, 105, 116, 121] : List UInt8)) = false := beq_eq_false_iff_ne.mpr c44
             have c44b1 : (a0_0.toList != ([105, 110, 116, 101, 103, 114, 105, 116, 121] : List UInt8)) = true := bne_iff_ne.mpr c44
             have H' := Aside0.mk H
             clear H
             go_wp2
             go_meet
             case rel => exact ⟨_, ((a0_0.toList == ([118, 101, 114, 105, 116, 121] : List UInt8))), (by first | rfl | (simp; done) | (simp [*]; done)), H', ⟨by have := HJ2.out; have := HJ11.out; first | omega | exact Nat.le_refl _⟩, ⟨by (with_reducible repeat (first | refine xA7 ?_ _ | refine xAc ?_ | refine xA6 ?_ _)); exact BK157.out⟩, ⟨by repeat (first | (with_reducible first | exact HB.out | apply xA2 | apply xA0 | apply xA3 | refine xAa ?_ GE157.out) | exact HB.out)⟩⟩
          case rest =>
           clear HC42
           try clear c1
           try clear p1
           try clear q1
           try clear hx1
           try clear qi1
           try clear c2
           try clear p2
           try clear c3
           try clear c4
           try clear c5
           try clear c5b0
           try clear c7
           try clear c8
           try clear c8b0
           try clear c13
           try clear c13b0
           try clear c13b1
           try clear c14
           try clear c14b0
           try clear c14b1
           try clear c15
           try clear p15
           try clear q15
           try clear hx15
           try clear qi15
           try clear c16
           try clear p16
           try clear q16
           try clear hx16
           try clear qi16
           try clear c18
           try clear c21
           try clear c21b0
           try clear c21b1
           try clear c22
           try clear c22b0
           try clear c22b1
           try clear c23
           try clear c23b0
           try clear c23b1
           try clear c25
           try clear c26
           try clear c26b0
           try clear c26b1
           try clear c35
           try clear c35b0
           try clear c35b1
           try clear c36
           try clear c36b0
           try clear c36b1
           try clear c37
           try clear c37b0
           try clear c37b1
           try clear c43
           try clear c43b0
           try clear c43b1
           try clear c44
           try clear c44b0
           try clear c44b1
           try clear hcz10_0 hcz10_1 hcz10_2 hcz10_3 hcz10_4
           try clear hcz15_0 hcz15_1 hcz15_2 hcz15_3 hcz15_4
           try clear hcz16_0 hcz16_1 hcz16_2 hcz16_3 hcz16_4
           try clear hcz17_0 hcz17_1 hcz17_2 hcz17_3 hcz17_4
           try clear hcz20_0 hcz20_1 hcz20_2 hcz20_3 hcz20_4
           try clear hcz28_0 hcz28_1 hcz28_2 hcz28_3 hcz28_4
           try clear hcz30_0 hcz30_1 hcz30_2 hcz30_3 hcz30_4
           try clear hcz32_0 hcz32_1 hcz32_2 hcz32_3 hcz32_4
           try clear hcz34_0 hcz34_1 hcz34_2 hcz34_3 hcz34_4
           try clear hcz39_0 hcz39_1 hcz39_2 hcz39_3 hcz39_4
           try clear hcz41_0 hcz41_1 hcz41_2 hcz41_3 hcz41_4
           try clear hcz6_0 hcz6_1 hcz6_2 hcz6_3 hcz6_4
           try clear hfz10_0 hfz10_1 hfz10_2 hfz10_3 hfz10_4
           try clear hfz15_0 hfz15_1 hfz15_2 hfz15_3 hfz15_4
           try clear hfz16_0 hfz16_1 hfz16_2 hfz16_3 hfz16_4
           try clear hfz17_0 hfz17_1 hfz17_2 hfz17_3 hfz17_4
           try clear hfz20_0 hfz20_1 hfz20_2 hfz20_3 hfz20_4
           try clear hfz28_0 hfz28_1 hfz28_2 hfz28_3 hfz28_4
           try clear hfz30_0 hfz30_1 hfz30_2 hfz30_3 hfz30_4
           try clear hfz32_0 hfz32_1 hfz32_2 hfz32_3 hfz32_4
           try clear hfz34_0 hfz34_1 hfz34_2 hfz34_3 hfz34_4
           try clear hfz39_0 hfz39_1 hfz39_2 hfz39_3 hfz39_4
           try clear hfz41_0 hfz41_1 hfz41_2 hfz41_3 hfz41_4
           try clear hfz6_0 hfz6_1 hfz6_2 hfz6_3 hfz6_4
           try clear hx159_0 hx159_1 hx159_2 hx159_3 hx159_4
           try clear hx161_0 hx161_1 hx161_2 hx161_3 hx161_4
           try clear hx163_0 hx163_1 hx163_2 hx163_3 hx163_4
           try clear p159
           try clear p161
           try clear p163
           try clear p2
           try clear q159
           try clear q161
           try clear q163
           obtain ⟨kq, x70_41, rfl, HA, HJ41, BK157, HB⟩ := hcut
           cases kq with
           | zero => exact absurd HA.out (by simp [xAl.j2])
           | succ kj41 =>
            have H := HA.out
            clear HA
            simp only [xAl.j2] at H
            by_cases c45 : x70_41 = true
            ·subst c45
             have H1 : (if (l0_4.length : Int) = 2 then (if 1 < (l0_4.length : Int) then ((xBf.f kj41 ((xAd l0_4 1).f0) ((xAd l0_4 1).f1) ((xAd l0_4 1).f2) ((xAd l0_4 1).f3) ((xAd l0_4 1).f4) (⟨#[110, 97, 109, 101]⟩ : ByteArray)).bind fun t166 => (xAl.j3 kj41 a1 1 t166 a0_0 a0_1 a0_2 a0_3 l0_4)) else (none)) else (xAl.j3 kj41 a1 1 false a0_0 a0_1 a0_2 a0_3 l0_4)) = some r := by rw [if_pos rfl] at H; exact H
             clear H
             have H := H1
             clear H1
             by_cases c46 : (l0_4.length : Int) = 2
             ·rw [if_pos c46] at H
              have c46b0 : ((l0_4.length : Int) == 2) = true := beq_iff_eq.mpr c46
              have c46b1 : ((l0_4.length : Int) != 2) = false := bne_eq_false_iff_eq.mpr c46
              clear c46
              by_cases c47 : 1 < (l0_4.length : Int)
              ·rw [if_pos c47] at H
               have c47b0 : decide (1 < (l0_4.length : Int)) = true := decide_eq_true c47
               have c47b1 : decide (1 < l0_4.length) = true := decide_eq_true (by omega)
               clear c47
               replace H := Option.bind_eq_some_iff.mp H
               obtain ⟨t166, A480, H⟩ := H
               replace H : (xAl.j3 kj41 a1 1 t166 a0_0 a0_1 a0_2 a0_3 l0_4) = some r := H
               have A48 := Aside0.mk A480
               clear A480
               have H' := Aside0.mk H
               clear H
               obtain ⟨hcz49_0, hcz49_1, hcz49_2, hcz49_3, hcz49_4, hfz49_0, hfz49_1, hfz49_2, hfz49_3, hfz49_4⟩ := ex5 BK157.out
               have p165 : 0 ≤ (1 : Int) := (by omega)
               have q165 : 1 < (l0_4.length : Int) := of_decide_eq_true (by first | (with_reducible assumption) | assumption)
               obtain ⟨ad165, A165_4, c165_4, e165, hx165_0, hx165_1, hx165_2, hx165_3, hx165_4, hl165_4, hi165_4⟩ := xEg HR0_4.out 1 p165 q165
               cases e165
               (try simp only [show (1 : Int).toNat = 1 from rfl, Nat.reduceMul, Nat.reduceEqDiff, Go.Addr.add, ↓reduceIte] at hx165_0 hx165_1 hx165_2 hx165_3 hx165_4)
               have qi165 : (1 < l0_4.length) = True := eq_true (by omega)
               (try rw [show ((1 : Int)).toNat = 1 from rfl] at hx165_0)
               (try rw [show 1 * 5 = 5 from rfl] at hx165_0)
               (try rw [show ((1 : Int)).toNat = 1 from rfl] at hx165_1)
               (try rw [show 1 * 5 = 5 from rfl] at hx165_1)
               (try rw [show ((1 : Int)).toNat = 1 from rfl] at hx165_2)
               (try rw [show 1 * 5 = 5 from rfl] at hx165_2)
               (try rw [show ((1 : Int)).toNat = 1 from rfl] at hx165_3)
               (try rw [show 1 * 5 = 5 from rfl] at hx165_3)
               (try rw [show ((1 : Int)).toNat = 1 from rfl] at hx165_4)
               (try rw [show 1 * 5 = 5 from rfl] at hx165_4)
               replace hx165_0 := (HB.out.cell (World.block_lt_of_cell? w _ hx165_0)).trans hx165_0
               replace hx165_1 := (HB.out.cell (World.block_lt_of_cell? w _ hx165_1)).trans hx165_1
               replace hx165_2 := (HB.out.cell (World.block_lt_of_cell? w _ hx165_2)).trans hx165_2
               replace hx165_3 := (HB.out.cell (World.block_lt_of_cell? w _ hx165_3)).trans hx165_3
               replace hx165_4 := (HB.out.cell (World.block_lt_of_cell? w _ hx165_4)).trans hx165_4
               have HR165_4 := Aside0.mk hi165_4
               have HC165_4 := Aside0.mk hl165_4
               clear hi165_4 hl165_4
               replace p165 := eq_true p165
               replace q165 := eq_true q165
               go_wp2_with (first | (go_at_call 81; (with_reducible refine (xBf.calls kj41 ((xAd l0_4 1).f0) ((xAd l0_4 1).f1) ((xAd l0_4 1).f2) ((xAd l0_4 1).f3) _ _ ((xAd l0_4 1).f4) (⟨#[110, 97, 109, 101]⟩ : ByteArray) t166 _ ?side1 ?side2 A48.out m_ (by first | (with_reducible exact hmA_.out) | exact xCa hmA_.out (by repeat (first | (with_reducible first | exact HB.out | apply xA2 | apply xA0 | apply xA3 | refine xAa ?_ GE157.out) | exact HB.out)) | (repeat (first | exact hmA_.out | refine xC3 ?_ | refine mlen_drew ?_)))).mono ?_); (case side1 => repeat (first | exact (Kd.C_below HR165_4.out HB.out) | (with_reducible refine Kd.C_alloc ?_ _) | (with_reducible refine Kd.C_drewN ?_ _) | (with_reducible refine Kd.C_drew ?_))); (case side2 => exact HC165_4.out); rintro e w50 ⟨rfl, hb⟩; have n0_ := Aside0.mk (xAx (g := gb157) (o := .cells #[.string a0_0, .string a0_1, .int .i64 a0_2, .int .i64 a0_3, .slice (some ad165) l0_4.length c0_4] 25 (0, 0)) (by (with_reducible repeat (first | refine xA7 ?_ _ | refine xAc ?_ | refine xA6 ?_ _)); exact BK157.out) hb); have n1_ := Aside0.mk (xAz (by repeat (first | (with_reducible first | exact HB.out | apply xA2 | apply xA0 | apply xA3 | refine xAa ?_ GE157.out) | exact HB.out)) hb); clear BK157; clear HB; have BK157 := n0_; have HB := n1_; clear n0_ n1_; (try clear hb); (try clear hb2); (try clear hk); (try clear hi)))
               go_meet
               case rel => exact ⟨_, (1), (t166), (by first | rfl | (simp; done) | (simp [*]; done)), (by first | rfl | (simp; done) | (simp [*]; done)), H', ⟨by have := HJ2.out; have := HJ11.out; have := HJ41.out; first | omega | exact Nat.le_refl _⟩, ⟨by (with_reducible repeat (first | refine xA7 ?_ _ | refine xAc ?_ | refine xA6 ?_ _)); exact BK157.out⟩, ⟨by repeat (first | (with_reducible first | exact HB.out | apply xA2 | apply xA0 | apply xA3 | refine xAa ?_ GE157.out) | exact HB.out)⟩⟩
              ·rw [if_neg c47] at H
               exact absurd H (by simp)
             ·rw [if_neg c46] at H
              have c46b0 : ((l0_4.length : Int) == 2) = false := beq_eq_false_iff_ne.mpr c46
              have c46b1 : ((l0_4.length : Int) != 2) = true := bne_iff_ne.mpr c46
              have H' := Aside0.mk H
              clear H
              obtain ⟨hcz51_0, hcz51_1, hcz51_2, hcz51_3, hcz51_4, hfz51_0, hfz51_1, hfz51_2, hfz51_3, hfz51_4⟩ := ex5 BK157.out
              go_wp2
              go_meet
              case rel => exact ⟨_, (1), (false), (by first | rfl | (simp; done) | (simp [*]; done)), (by first | rfl | (simp; done) | (simp [*]; done)), H', ⟨by have := HJ2.out; have := HJ11.out; have := HJ41.out; first | omega | exact Nat.le_refl _⟩, ⟨by (with_reducible repeat (first | refine xA7 ?_ _ | refine xAc ?_ | refine xA6 ?_ _)); exact BK157.out⟩, ⟨by repeat (first | (with_reducible first | exact HB.out | apply xA2 | apply xA0 | apply xA3 | refine xAa ?_ GE157.out) | exact HB.out)⟩⟩
            ·replace c45 := Bool.eq_false_iff.mpr c45
             subst c45
             have H1 : (if a0_0.toList = ([99, 111, 110, 99, 97, 116] : List UInt8) then (xAl.j3 kj41 a1 (l0_4.length : Int) true a0_0 a0_1 a0_2 a0_3 l0_4) else (if a0_0.toList = ([109, 105, 114, 114, 111, 114] : List UInt8) then (xAl.j3 kj41 a1 (l0_4.length : Int) true a0_0 a0_1 a0_2 a0_3 l0_4) else (xAl.j3 kj41 a1 1 false a0_0 a0_1 a0_2 a0_3 l0_4))) = some r := by rw [if_neg (show ¬ (false = true) by decide)] at H; exact H
             clear H
             have H := H1
             clear H1
             by_cases c52 : a0_0.toList = ([99, 111, 110, 99, 97, 116] : List UInt8)
             ·rw [if_pos c52] at H
              have c52b0 : (a0_0.toList == ([99, 111, 110, 99, 97, 116] : List UInt8)) = true := beq_iff_eq.mpr c52
              have c52b1 : (a0_0.toList != ([99, 111, 110, 99, 97, 116] : List UInt8)) = false := bne_eq_false_iff_eq.mpr c52
              clear c52
              have H' := Aside0.mk H
              clear H
              obtain ⟨hcz53_0, hcz53_1, hcz53_2, hcz53_3, hcz53_4, hfz53_0, hfz53_1, hfz53_2, hfz53_3, hfz53_4⟩ := ex5 BK157.out
              go_wp2
              go_meet
              case rel => exact ⟨_, ((l0_4.length : Int)), (true), (by first | rfl | (simp; done) | (simp [*]; done)), (by first | rfl | (simp; done) | (simp [*]; done)), H', ⟨by have := HJ2.out; have := HJ11.out; have := HJ41.out; first | omega | exact Nat.le_refl _⟩, ⟨by (with_reducible repeat (first | refine xA7 ?_ _ | refine xAc ?_ | refine xA6 ?_ _)); exact BK157.out⟩, ⟨by repeat (first | (with_reducible first | exact HB.out | apply xA2 | apply xA0 | apply xA3 | refine xAa ?_ GE157.out) | exact HB.out)⟩⟩
             ·rw [if_neg c52] at H
              have c52b0 : (a0_0.toList == ([99, 111, 110, 99, 97, 116] : List UInt8)) = false := beq_eq_false_iff_ne.mpr c52
              have c52b1 : (a0_0.toList != ([99, 111, 110, 99, 97, 116] : List UInt8)) = true := bne_iff_ne.mpr c52
              by_cases c54 : a0_0.toList = ([109, 105, 114, 114, 111, 114] : List UInt8)
              ·rw [if_pos c54] at H
               have c54b0 : (a0_0.toList == ([109, 105, 114, 114, 111, 114] : List UInt8)) = true := beq_iff_eq.mpr c54
               have c54b1 : (a0_0.toList != ([109, 105, 114, 114, 111, 114] : List UInt8)) = false := bne_eq_false_iff_eq.mpr c54
               clear c54
               have H' := Aside0.mk H
               clear H
               obtain ⟨hcz55_0, hcz55_1, hcz55_2, hcz55_3, hcz55_4, hfz55_0, hfz55_1, hfz55_2, hfz55_3, hfz55_4⟩ := ex5 BK157.out
               go_wp2
               go_meet
               case rel => exact ⟨_, ((l0_4.length : Int)), (true), (by first | rfl | (simp; done) | (simp [*]; done)), (by first | rfl | (simp; done) | (simp [*]; done)), H', ⟨by have := HJ2.out; have := HJ11.out; have := HJ41.out; first | omega | exact Nat.le_refl _⟩, ⟨by (with_reducible repeat (first | refine xA7 ?_ _ | refine xAc ?_ | refine xA6 ?_ _)); exact BK157.out⟩, ⟨by repeat (first | (with_reducible first | exact HB.out | apply xA2 | apply xA0 | apply xA3 | refine xAa ?_ GE157.out) | exact HB.out)⟩⟩
              ·rw [if_neg c54] at H
               have c54b0 : (a0_0.toList == ([109, 105, 114, 114, 111, 114] : List UInt8)) = false := beq_eq_false_iff_ne.mpr c54
               have c54b1 : (a0_0.toList != ([109, 105, 114, 114, 111, 114] : List UInt8)) = true := bne_iff_ne.mpr c54
               have H' := Aside0.mk H
               clear H
               go_wp2
               go_meet
               case rel => exact ⟨_, (1), (false), (by first | rfl | (simp; done) | (simp [*]; done)), (by first | rfl | (simp; done) | (simp [*]; done)), H', ⟨by have := HJ2.out; have := HJ11.out; have := HJ41.out; first | omega | exact Nat.le_refl _⟩, ⟨by (with_reducible repeat (first | refine xA7 ?_ _ | refine xAc ?_ | refine xA6 ?_ _)); exact BK157.out⟩, ⟨by repeat (first | (with_reducible first | exact HB.out | apply xA2 | apply xA0 | apply xA3 | refine xAa ?_ GE157.out) | exact HB.out)⟩⟩
       case rest =>
        clear HC19
        try clear c1
        try clear p1
        try clear q1
        try clear hx1
        try clear qi1
        try clear c2
        try clear p2
        try clear c3
        try clear c4
        try clear c5
        try clear c5b0
        try clear c7
        try clear c8
        try clear c8b0
        try clear c13
        try clear c13b0
        try clear c13b1
        try clear c14
        try clear c14b0
        try clear c14b1
        try clear c15
        try clear p15
        try clear q15
        try clear hx15
        try clear qi15
        try clear c16
        try clear p16
        try clear q16
        try clear hx16
        try clear qi16
        try clear c18
        try clear c21
        try clear c21b0
        try clear c21b1
        try clear c22
        try clear c22b0
        try clear c22b1
        try clear c23
        try clear c23b0
        try clear c23b1
        try clear c25
        try clear c26
        try clear c26b0
        try clear c26b1
        try clear c35
        try clear c35b0
        try clear c35b1
        try clear c36
        try clear c36b0
        try clear c36b1
        try clear c37
        try clear c37b0
        try clear c37b1
        try clear c43
        try clear c43b0
        try clear c43b1
        try clear c44
        try clear c44b0
        try clear c44b1
        try clear c45
        try clear c46
        try clear c46b0
        try clear c46b1
        try clear c47
        try clear c47b0
        try clear c47b1
        try clear c52
        try clear c52b0
        try clear c52b1
        try clear c54
        try clear c54b0
        try clear c54b1
        try clear hcz10_0 hcz10_1 hcz10_2 hcz10_3 hcz10_4
        try clear hcz15_0 hcz15_1 hcz15_2 hcz15_3 hcz15_4
        try clear hcz16_0 hcz16_1 hcz16_2 hcz16_3 hcz16_4
        try clear hcz17_0 hcz17_1 hcz17_2 hcz17_3 hcz17_4
        try clear hcz20_0 hcz20_1 hcz20_2 hcz20_3 hcz20_4
        try clear hcz28_0 hcz28_1 hcz28_2 hcz28_3 hcz28_4
        try clear hcz30_0 hcz30_1 hcz30_2 hcz30_3 hcz30_4
        try clear hcz32_0 hcz32_1 hcz32_2 hcz32_3 hcz32_4
        try clear hcz34_0 hcz34_1 hcz34_2 hcz34_3 hcz34_4
        try clear hcz39_0 hcz39_1 hcz39_2 hcz39_3 hcz39_4
        try clear hcz41_0 hcz41_1 hcz41_2 hcz41_3 hcz41_4
        try clear hcz49_0 hcz49_1 hcz49_2 hcz49_3 hcz49_4
        try clear hcz51_0 hcz51_1 hcz51_2 hcz51_3 hcz51_4
        try clear hcz53_0 hcz53_1 hcz53_2 hcz53_3 hcz53_4
        try clear hcz55_0 hcz55_1 hcz55_2 hcz55_3 hcz55_4
        try clear hcz6_0 hcz6_1 hcz6_2 hcz6_3 hcz6_4
        try clear hfz10_0 hfz10_1 hfz10_2 hfz10_3 hfz10_4
        try clear hfz15_0 hfz15_1 hfz15_2 hfz15_3 hfz15_4
        try clear hfz16_0 hfz16_1 hfz16_2 hfz16_3 hfz16_4
        try clear hfz17_0 hfz17_1 hfz17_2 hfz17_3 hfz17_4
        try clear hfz20_0 hfz20_1 hfz20_2 hfz20_3 hfz20_4
        try clear hfz28_0 hfz28_1 hfz28_2 hfz28_3 hfz28_4
        try clear hfz30_0 hfz30_1 hfz30_2 hfz30_3 hfz30_4
        try clear hfz32_0 hfz32_1 hfz32_2 hfz32_3 hfz32_4
        try clear hfz34_0 hfz34_1 hfz34_2 hfz34_3 hfz34_4
        try clear hfz39_0 hfz39_1 hfz39_2 hfz39_3 hfz39_4
        try clear hfz41_0 hfz41_1 hfz41_2 hfz41_3 hfz41_4
        try clear hfz49_0 hfz49_1 hfz49_2 hfz49_3 hfz49_4
        try clear hfz51_0 hfz51_1 hfz51_2 hfz51_3 hfz51_4
        try clear hfz53_0 hfz53_1 hfz53_2 hfz53_3 hfz53_4
        try clear hfz55_0 hfz55_1 hfz55_2 hfz55_3 hfz55_4
        try clear hfz6_0 hfz6_1 hfz6_2 hfz6_3 hfz6_4
        try clear hx159_0 hx159_1 hx159_2 hx159_3 hx159_4
        try clear hx161_0 hx161_1 hx161_2 hx161_3 hx161_4
        try clear hx163_0 hx163_1 hx163_2 hx163_3 hx163_4
        try clear hx165_0 hx165_1 hx165_2 hx165_3 hx165_4
        try clear p1
        try clear p15
        try clear p159
        try clear p16
        try clear p161
        try clear p163
        try clear p165
        try clear p2
        try clear q1
        try clear q15
        try clear q159
        try clear q16
        try clear q161
        try clear q163
        try clear q165
        obtain ⟨kq, x5_18, x6_18, rfl, rfl, HA, HJ18, BK157, HB⟩ := hcut
        cases kq with
        | zero => exact absurd HA.out (by simp [xAl.j3])
        | succ kj18 =>
         have H := HA.out
         clear HA
         simp only [xAl.j3] at H
         have H' := Aside0.mk H
         clear H
         go_wp2
         go_loopg [6, 7] kj18 (fun kq v6 v7 w' => ∃ (x6_4 : Bool) (x7_4 : Int), v6 = .bool x6_4 ∧ v7 = .int .i64 x7_4 ∧ Aside0 (xAl.l0 kq a1 x5_18 x6_4 x7_4 a0_0 a0_1 a0_2 a0_3 l0_4 = some r) ∧ Aside0 (kq ≤ kj18) ∧ Aside0 (w'.heap[gb157]? = some (.cells #[.string a0_0, .string a0_1, .int .i64 a0_2, .int .i64 a0_3, (.slice A0_4 l0_4.length c0_4)] 25 (0, 0))) ∧ Aside0 (Below w.heap.size w w'))
         case atStart => exact ⟨(x6_18), (0), (by first | rfl | (simp; done) | (simp [*]; done)), (by first | rfl | (simp; done) | (simp [*]; done)), H', ⟨Nat.le_refl _⟩, ⟨by (with_reducible repeat (first | refine xA7 ?_ _ | refine xAc ?_ | refine xA6 ?_ _)); exact BK157.out⟩, ⟨by repeat (first | (with_reducible first | exact HB.out | apply xA2 | apply xA0 | apply xA3 | refine xAa ?_ GE157.out) | exact HB.out)⟩⟩
         case round =>
          clear H'
          try clear c1
          try clear p1
          try clear q1
          try clear hx1
          try clear qi1
          try clear c2
          try clear p2
          try clear c3
          try clear c4
          try clear c5
          try clear c5b0
          try clear c7
          try clear c8
          try clear c8b0
          try clear c13
          try clear c13b0
          try clear c13b1
          try clear c14
          try clear c14b0
          try clear c14b1
          try clear c15
          try clear p15
          try clear q15
          try clear hx15
          try clear qi15
          try clear c16
          try clear p16
          try clear q16
          try clear hx16
          try clear qi16
          try clear c18
          try clear c21
          try clear c21b0
          try clear c21b1
          try clear c22
          try clear c22b0
          try clear c22b1
          try clear c23
          try clear c23b0
          try clear c23b1
          try clear c25
          try clear c26
          try clear c26b0
          try clear c26b1
          try clear c35
          try clear c35b0
          try clear c35b1
          try clear c36
          try clear c36b0
          try clear c36b1
          try clear c37
          try clear c37b0
          try clear c37b1
          try clear c43
          try clear c43b0
          try clear c43b1
          try clear c44
          try clear c44b0
          try clear c44b1
          try clear c45
          try clear c46
          try clear c46b0
          try clear c46b1
          try clear c47
          try clear c47b0
          try clear c47b1
          try clear c52
          try clear c52b0
          try clear c52b1
          try clear c54
          try clear c54b0
          try clear c54b1
          try clear hcz10_0 hcz10_1 hcz10_2 hcz10_3 hcz10_4
          try clear hcz15_0 hcz15_1 hcz15_2 hcz15_3 hcz15_4
          try clear hcz16_0 hcz16_1 hcz16_2 hcz16_3 hcz16_4
          try clear hcz17_0 hcz17_1 hcz17_2 hcz17_3 hcz17_4
          try clear hcz20_0 hcz20_1 hcz20_2 hcz20_3 hcz20_4
          try clear hcz28_0 hcz28_1 hcz28_2 hcz28_3 hcz28_4
          try clear hcz30_0 hcz30_1 hcz30_2 hcz30_3 hcz30_4
          try clear hcz32_0 hcz32_1 hcz32_2 hcz32_3 hcz32_4
          try clear hcz34_0 hcz34_1 hcz34_2 hcz34_3 hcz34_4
          try clear hcz39_0 hcz39_1 hcz39_2 hcz39_3 hcz39_4
          try clear hcz41_0 hcz41_1 hcz41_2 hcz41_3 hcz41_4
          try clear hcz49_0 hcz49_1 hcz49_2 hcz49_3 hcz49_4
          try clear hcz51_0 hcz51_1 hcz51_2 hcz51_3 hcz51_4
          try clear hcz53_0 hcz53_1 hcz53_2 hcz53_3 hcz53_4
          try clear hcz55_0 hcz55_1 hcz55_2 hcz55_3 hcz55_4
          try clear hcz6_0 hcz6_1 hcz6_2 hcz6_3 hcz6_4
          try clear hfz10_0 hfz10_1 hfz10_2 hfz10_3 hfz10_4
          try clear hfz15_0 hfz15_1 hfz15_2 hfz15_3 hfz15_4
          try clear hfz16_0 hfz16_1 hfz16_2 hfz16_3 hfz16_4
          try clear hfz17_0 hfz17_1 hfz17_2 hfz17_3 hfz17_4
          try clear hfz20_0 hfz20_1 hfz20_2 hfz20_3 hfz20_4
          try clear hfz28_0 hfz28_1 hfz28_2 hfz28_3 hfz28_4
          try clear hfz30_0 hfz30_1 hfz30_2 hfz30_3 hfz30_4
          try clear hfz32_0 hfz32_1 hfz32_2 hfz32_3 hfz32_4
          try clear hfz34_0 hfz34_1 hfz34_2 hfz34_3 hfz34_4
          try clear hfz39_0 hfz39_1 hfz39_2 hfz39_3 hfz39_4
          try clear hfz41_0 hfz41_1 hfz41_2 hfz41_3 hfz41_4
          try clear hfz49_0 hfz49_1 hfz49_2 hfz49_3 hfz49_4
          try clear hfz51_0 hfz51_1 hfz51_2 hfz51_3 hfz51_4
          try clear hfz53_0 hfz53_1 hfz53_2 hfz53_3 hfz53_4
          try clear hfz55_0 hfz55_1 hfz55_2 hfz55_3 hfz55_4
          try clear hfz6_0 hfz6_1 hfz6_2 hfz6_3 hfz6_4
          try clear hx159_0 hx159_1 hx159_2 hx159_3 hx159_4
          try clear hx161_0 hx161_1 hx161_2 hx161_3 hx161_4
          try clear hx163_0 hx163_1 hx163_2 hx163_3 hx163_4
          try clear hx165_0 hx165_1 hx165_2 hx165_3 hx165_4
          try clear p1
          try clear p15
          try clear p159
          try clear p16
          try clear p161
          try clear p163
          try clear p165
          try clear p2
          try clear q1
          try clear q15
          try clear q159
          try clear q16
          try clear q161
          try clear q163
          try clear q165
          obtain ⟨x6_4, x7_4, rfl, rfl, HA, HK4, BK157, HB⟩ := hrel
          cases gk with
          | zero => exact absurd HA.out (by simp [xAl.l0])
          | succ k4 =>
           have H := HA.out
           clear HA
           simp only [xAl.l0] at H
           by_cases c56 : x6_4 = true
           ·subst c56
            have H1 : (if x7_4 < x5_18 then (if 0 ≤ x7_4 then (if x7_4 < (l0_4.length : Int) then ((xAl.f k4 ((xAd l0_4 x7_4).f0) ((xAd l0_4 x7_4).f1) ((xAd l0_4 x7_4).f2) ((xAd l0_4 x7_4).f3) ((xAd l0_4 x7_4).f4) (wrap64 (a1 + 1))).bind fun t168 => (xAl.l0 k4 a1 x5_18 t168 (wrap64 (x7_4 + 1)) a0_0 a0_1 a0_2 a0_3 l0_4)) else (none)) else (none)) else (some true)) = some r := by rw [if_pos rfl] at H; exact H
            clear H
            have H := H1
            clear H1
            by_cases c57 : x7_4 < x5_18
            ·rw [if_pos c57] at H
             have c57b0 : decide (x7_4 < x5_18) = true := decide_eq_true c57
             clear c57
             by_cases c58 : 0 ≤ x7_4
             ·rw [if_pos c58] at H
              have c58b0 : decide (0 ≤ x7_4) = true := decide_eq_true c58
              clear c58
              by_cases c59 : x7_4 < (l0_4.length : Int)
              ·rw [if_pos c59] at H
               have c59b0 : decide (x7_4 < (l0_4.length : Int)) = true := decide_eq_true c59
               clear c59
               replace H := Option.bind_eq_some_iff.mp H
               obtain ⟨t168, A600, H⟩ := H
               replace H : (xAl.l0 k4 a1 x5_18 t168 (wrap64 (x7_4 + 1)) a0_0 a0_1 a0_2 a0_3 l0_4) = some r := H
               have A60 := Aside0.mk A600
               clear A600
               have H' := Aside0.mk H
               clear H
               obtain ⟨hcz61_0, hcz61_1, hcz61_2, hcz61_3, hcz61_4, hfz61_0, hfz61_1, hfz61_2, hfz61_3, hfz61_4⟩ := ex5 BK157.out
               have p167 : 0 ≤ (x7_4 : Int) := of_decide_eq_true (by first | (with_reducible assumption) | assumption)
               have q167 : x7_4 < (l0_4.length : Int) := of_decide_eq_true (by first | (with_reducible assumption) | assumption)
               obtain ⟨ad167, A167_4, c167_4, e167, hx167_0, hx167_1, hx167_2, hx167_3, hx167_4, hl167_4, hi167_4⟩ := xEg HR0_4.out x7_4 p167 q167
               cases e167
               replace hx167_0 := (HB.out.cell (World.block_lt_of_cell? w _ hx167_0)).trans hx167_0
               replace hx167_1 := (HB.out.cell (World.block_lt_of_cell? w _ hx167_1)).trans hx167_1
               replace hx167_2 := (HB.out.cell (World.block_lt_of_cell? w _ hx167_2)).trans hx167_2
               replace hx167_3 := (HB.out.cell (World.block_lt_of_cell? w _ hx167_3)).trans hx167_3
               replace hx167_4 := (HB.out.cell (World.block_lt_of_cell? w _ hx167_4)).trans hx167_4
               have HR167_4 := Aside0.mk hi167_4
               have HC167_4 := Aside0.mk hl167_4
               clear hi167_4 hl167_4
               replace p167 := eq_true p167
               replace q167 := eq_true q167
               go_wp2_with (first | ((with_reducible refine xAo (f := 54) rfl ?_); refine xBo (some 106) rfl rfl Tryd.func54 (by kernel_rfl) rfl #[.agg #[.string ((xAd l0_4 x7_4).f0), .string ((xAd l0_4 x7_4).f1), .int .i64 ((xAd l0_4 x7_4).f2), .int .i64 ((xAd l0_4 x7_4).f3), .slice A167_4 ((xAd l0_4 x7_4).f4).length c167_4], .int .i64 (wrap64 (a1 + 1))] rfl (by (try simp only [List.map_toArray, List.map_cons, List.map_nil]); first | done | rfl | (simp only [List.length_drop, List.length_take]; rfl)) ?_; (with_reducible refine (ih k4 (by have := HJ2.out; have := HJ11.out; have := HJ18.out; have := HK4.out; omega) ((xAd l0_4 x7_4).f0) ((xAd l0_4 x7_4).f1) ((xAd l0_4 x7_4).f2) ((xAd l0_4 x7_4).f3) _ _ ((xAd l0_4 x7_4).f4) (wrap64 (a1 + 1)) t168 _ ?side1 ?side2 A60.out m_ (by first | (with_reducible exact hmA_.out) | exact xCa hmA_.out (by repeat (first | (with_reducible first | exact HB.out | apply xA2 | apply xA0 | apply xA3 | refine xAa ?_ GE157.out) | exact HB.out)) | (repeat (first | exact hmA_.out | refine xC3 ?_ | refine mlen_drew ?_)))).mono ?_); (case side1 => repeat (first | exact (Kd.C_below HR167_4.out HB.out) | (with_reducible refine Kd.C_alloc ?_ _) | (with_reducible refine Kd.C_drewN ?_ _) | (with_reducible refine Kd.C_drew ?_))); (case side2 => exact HC167_4.out); rintro e w62 ⟨rfl, hb⟩; refine ⟨_, rfl, ?_⟩; have n0_ := Aside0.mk (xAx (g := gb157) (o := .cells #[.string a0_0, .string a0_1, .int .i64 a0_2, .int .i64 a0_3, .slice (some ad167) l0_4.length c0_4] 25 (0, 0)) (by (with_reducible repeat (first | refine xA7 ?_ _ | refine xAc ?_ | refine xA6 ?_ _)); exact BK157.out) hb); have n1_ := Aside0.mk (xAz (by repeat (first | (with_reducible first | exact HB.out | apply xA2 | apply xA0 | apply xA3 | refine xAa ?_ GE157.out) | exact HB.out)) hb); clear BK157; clear HB; have BK157 := n0_; have HB := n1_; clear n0_ n1_; (try clear hb); (try clear hb2); (try clear hk); (try clear hi)))
               go_roundg k4
               case measure => have := HJ2.out; have := HJ11.out; have := HJ18.out; have := HK4.out; omega
               case rel => exact ⟨(t168), (wrap64 (x7_4 + 1)), (by first | rfl | (simp; done) | (simp [*]; done)), (by first | rfl | (simp; done) | (simp [*]; done)), H', ⟨by have := HJ2.out; have := HJ11.out; have := HJ18.out; have := HK4.out; omega⟩, ⟨by (with_reducible repeat (first | refine xA7 ?_ _ | refine xAc ?_ | refine xA6 ?_ _)); exact BK157.out⟩, ⟨by repeat (first | (with_reducible first | exact HB.out | apply xA2 | apply xA0 | apply xA3 | refine xAa ?_ GE157.out) | exact HB.out)⟩⟩
              ·rw [if_neg c59] at H
               exact absurd H (by simp)
             ·rw [if_neg c58] at H
              exact absurd H (by simp)
            ·rw [if_neg c57] at H
             have c57b0 : decide (x7_4 < x5_18) = false := decide_eq_false c57
             clear c57
             obtain rfl := Option.some.inj H
             go_wp2
             go_ret
             exact ⟨by first | rfl | (simp <;> rfl) | (simp [*] <;> rfl), by repeat (first | (with_reducible first | exact HB.out | apply xA2 | apply xA0 | apply xA3 | refine xAa ?_ GE157.out) | exact HB.out)⟩
           ·replace c56 := Bool.eq_false_iff.mpr c56
            subst c56
            have H1 : (some false) = some r := by rw [if_neg (show ¬ (false = true) by decide)] at H; exact H
            clear H
            have H := H1
            clear H1
            obtain rfl := Option.some.inj H
            go_wp2
            go_ret
            exact ⟨by first | rfl | (simp <;> rfl) | (simp [*] <;> rfl), by repeat (first | (with_reducible first | exact HB.out | apply xA2 | apply xA0 | apply xA3 | refine xAa ?_ GE157.out) | exact HB.out)⟩

end Go.Proofs.YtknbfhhmjbnemaaDoor.P
end
section
namespace Go.Proofs.YtknbfhhmjbnemaaDoor.P
open Go.RowKit Go.Proofs.YtknbfhhmjbnemaaDoorW.PrintWords Go.Proofs.YtknbfhhmjbnemaaDoorW.PrintLast Go.Proofs.YtknbfhhmjbnemaaDoorW.PrintMore
attribute [local go_sem] xBh xBp

/-! ### xEo: function 53 -/
def xEo.f (k : Nat) (a0 : ByteArray) : Option (Bool) := if 1 + a0.size ≤ 9223372036854775807 then ((xBi.f k ((⟨#[36]⟩ : ByteArray) ++ a0)).bind fun bt147 => (if bt147.2.1 = 0 then (if (bt147.1.length : Int) = 1 then (if 0 < (bt147.1.length : Int) then (if ((xAu bt147.1 0).f0) = 2 then (some (((xAu bt147.1 0).f1).toList == a0.toList)) else (some false)) else (none)) else (some false)) else (some false))) else (none)
set_option maxHeartbeats 8000000 in
set_option maxRecDepth 100000 in
theorem xEo.calls (k : Nat) (a0 : ByteArray) (r : Bool) (w : World) (h : xEo.f k a0 = some r) :
  Calls Tryd.prog 53 #[.string a0] w fun e w' => e = .returned (.bool r) ∧ Below w.heap.size w w' := by
 have HB := Aside0.mk (Below.refl w.heap.size w)
 have H : (if 1 + a0.size ≤ 9223372036854775807 then ((xBi.f k ((⟨#[36]⟩ : ByteArray) ++ a0)).bind fun bt147 => (if bt147.2.1 = 0 then (if (bt147.1.length : Int) = 1 then (if 0 < (bt147.1.length : Int) then (if ((xAu bt147.1 0).f0) = 2 then (some (((xAu bt147.1 0).f1).toList == a0.toList)) else (some false)) else (none)) else (some false)) else (some false))) else (none)) = some r := h
 clear h
 by_cases c2 : 1 + a0.size ≤ 9223372036854775807
 ·rw [if_pos c2] at H
  have c2b0 := eq_true c2
  have c2b1 : decide (1 + a0.size ≤ 9223372036854775807) = true := decide_eq_true c2
  try have c2b2 : (9223372036854775807 < 1 + a0.size) = False := eq_false (Nat.not_lt.2 c2)
  replace H := Option.bind_eq_some_iff.mp H
  obtain ⟨⟨t147, t148, t149⟩, A30, H⟩ := H
  replace H : (if t148 = 0 then (if (t147.length : Int) = 1 then (if 0 < (t147.length : Int) then (if ((xAu t147 0).f0) = 2 then (some (((xAu t147 0).f1).toList == a0.toList)) else (some false)) else (none)) else (some false)) else (some false)) = some r := H
  have A3 := Aside0.mk A30
  clear A30
  by_cases c4 : t148 = 0
  ·rw [if_pos c4] at H
   have c4b0 : (t148 == 0) = true := beq_iff_eq.mpr c4
   have c4b1 : (t148 != 0) = false := bne_eq_false_iff_eq.mpr c4
   clear c4
   by_cases c5 : (t147.length : Int) = 1
   ·rw [if_pos c5] at H
    have c5b0 : ((t147.length : Int) == 1) = true := beq_iff_eq.mpr c5
    have c5b1 : ((t147.length : Int) != 1) = false := bne_eq_false_iff_eq.mpr c5
    clear c5
    by_cases c6 : 0 < (t147.length : Int)
    ·rw [if_pos c6] at H
     have c6b0 : decide (0 < (t147.length : Int)) = true := decide_eq_true c6
     have c6b1 : decide (0 < t147.length) = true := decide_eq_true (by omega)
     clear c6
     by_cases c7 : ((xAu t147 0).f0) = 2
     ·rw [if_pos c7] at H
      have c7b0 : (((xAu t147 0).f0) == 2) = true := beq_iff_eq.mpr c7
      have c7b1 : (((xAu t147 0).f0) != 2) = false := bne_eq_false_iff_eq.mpr c7
      clear c7
      obtain rfl := Option.some.inj H
      go_enter Tryd.func53, Tryd.ntmps53
      go_wp2_with (first | ((with_reducible refine xAo (f := 17) rfl ?_); refine xBo (some 9) rfl rfl Tryd.func17 (by kernel_rfl) rfl #[.string ((⟨#[36]⟩ : ByteArray) ++ a0)] rfl (by (try simp only [List.map_toArray, List.map_cons, List.map_nil]); first | done | rfl | (simp only [List.length_drop, List.length_take]; rfl)) ?_; (with_reducible refine (xBi.calls k ((⟨#[36]⟩ : ByteArray) ++ a0) t147 t148 t149 _ A3.out).mono ?_); rintro e w8 ⟨v150, rfl, ho0, hb⟩; refine ⟨_, rfl, ?_⟩; have n0_ := Aside0.mk (Kd.R_lower ho0 (xBa (by repeat (first | (with_reducible first | exact HB.out | apply xA2 | apply xA0 | apply xA3) | exact HB.out)))); have n1_ := Aside0.mk (xAz (by repeat (first | (with_reducible first | exact HB.out | apply xA2 | apply xA0 | apply xA3) | exact HB.out)) hb); clear HB; have HO151 := n0_; have HB := n1_; clear n0_ n1_; (try clear hb); (try clear hb2); (try clear hk); (try clear hi); (try clear ho0); obtain ⟨Ao9, co9, eo9⟩ := Kd.R_slice HO151.out; subst eo9; have p152 : 0 ≤ (0 : Int) := (by omega); have q152 : 0 < (t147.length : Int) := of_decide_eq_true (by first | (with_reducible assumption) | assumption); obtain ⟨ad152, e152, hx152_0, hx152_1, hx152_2, hx152_3⟩ := xD6 (Kd.R_reads' HO151.out).2.2 0 p152 q152; cases e152; have qi152 : (0 < t147.length) = True := eq_true (by omega); (try rw [show ((0 : Int)).toNat = 0 from rfl] at hx152_0); (try rw [show 0 * 4 = 0 from rfl] at hx152_0); (try rw [Addr.add_zero'] at hx152_0); (try rw [show ((0 : Int)).toNat = 0 from rfl] at hx152_1); (try rw [show 0 * 4 = 0 from rfl] at hx152_1); (try rw [Addr.add_zero'] at hx152_1); (try rw [show ((0 : Int)).toNat = 0 from rfl] at hx152_2); (try rw [show 0 * 4 = 0 from rfl] at hx152_2); (try rw [Addr.add_zero'] at hx152_2); (try rw [show ((0 : Int)).toNat = 0 from rfl] at hx152_3); (try rw [show 0 * 4 = 0 from rfl] at hx152_3); (try rw [Addr.add_zero'] at hx152_3); replace p152 := eq_true p152; replace q152 := eq_true q152; have p153 : 0 ≤ (0 : Int) := (by omega); have q153 : 0 < (t147.length : Int) := of_decide_eq_true (by first | (with_reducible assumption) | assumption); obtain ⟨ad153, e153, hx153_0, hx153_1, hx153_2, hx153_3⟩ := xD6 (Kd.R_reads' HO151.out).2.2 0 p153 q153; obtain rfl : ad152 = ad153 := (by injection e153); have qi153 : (0 < t147.length) = True := eq_true (by omega); (try rw [show ((0 : Int)).toNat = 0 from rfl] at hx153_0); (try rw [show 0 * 4 = 0 from rfl] at hx153_0); (try rw [Addr.add_zero'] at hx153_0); (try rw [show ((0 : Int)).toNat = 0 from rfl] at hx153_1); (try rw [show 0 * 4 = 0 from rfl] at hx153_1); (try rw [Addr.add_zero'] at hx153_1); (try rw [show ((0 : Int)).toNat = 0 from rfl] at hx153_2); (try rw [show 0 * 4 = 0 from rfl] at hx153_2); (try rw [Addr.add_zero'] at hx153_2); (try rw [show ((0 : Int)).toNat = 0 from rfl] at hx153_3); (try rw [show 0 * 4 = 0 from rfl] at hx153_3); (try rw [Addr.add_zero'] at hx153_3); replace p153 := eq_true p153; replace q153 := eq_true q153))
      go_ret
      exact ⟨by first | rfl | (simp <;> rfl) | (simp [*] <;> rfl), by repeat (first | (with_reducible first | exact HB.out | apply xA2 | apply xA0 | apply xA3) | exact HB.out)⟩
     ·rw [if_neg c7] at H
      have c7b0 : (((xAu t147 0).f0) == 2) = false := beq_eq_false_iff_ne.mpr c7
      have c7b1 : (((xAu t147 0).f0) != 2) = true := bne_iff_ne.mpr c7
      obtain rfl := Option.some.inj H
      go_enter Tryd.func53, Tryd.ntmps53
      go_wp2_with (first | ((with_reducible refine xAo (f := 17) rfl ?_); refine xBo (some 9) rfl rfl Tryd.func17 (by kernel_rfl) rfl #[.string ((⟨#[36]⟩ : ByteArray) ++ a0)] rfl (by (try simp only [List.map_toArray, List.map_cons, List.map_nil]); first | done | rfl | (simp only [List.length_drop, List.length_take]; rfl)) ?_; (with_reducible refine (xBi.calls k ((⟨#[36]⟩ : ByteArray) ++ a0) t147 t148 t149 _ A3.out).mono ?_); rintro e w10 ⟨v150, rfl, ho0, hb⟩; refine ⟨_, rfl, ?_⟩; have n0_ := Aside0.mk (Kd.R_lower ho0 (xBa (by repeat (first | (with_reducible first | exact HB.out | apply xA2 | apply xA0 | apply xA3) | exact HB.out)))); have n1_ := Aside0.mk (xAz (by repeat (first | (with_reducible first | exact HB.out | apply xA2 | apply xA0 | apply xA3) | exact HB.out)) hb); clear HB; have HO151 := n0_; have HB := n1_; clear n0_ n1_; (try clear hb); (try clear hb2); (try clear hk); (try clear hi); (try clear ho0); obtain ⟨Ao11, co11, eo11⟩ := Kd.R_slice HO151.out; subst eo11; have p152 : 0 ≤ (0 : Int) := (by omega); have q152 : 0 < (t147.length : Int) := of_decide_eq_true (by first | (with_reducible assumption) | assumption); obtain ⟨ad152, e152, hx152_0, hx152_1, hx152_2, hx152_3⟩ := xD6 (Kd.R_reads' HO151.out).2.2 0 p152 q152; cases e152; have qi152 : (0 < t147.length) = True := eq_true (by omega); (try rw [show ((0 : Int)).toNat = 0 from rfl] at hx152_0); (try rw [show 0 * 4 = 0 from rfl] at hx152_0); (try rw [Addr.add_zero'] at hx152_0); (try rw [show ((0 : Int)).toNat = 0 from rfl] at hx152_1); (try rw [show 0 * 4 = 0 from rfl] at hx152_1); (try rw [Addr.add_zero'] at hx152_1); (try rw [show ((0 : Int)).toNat = 0 from rfl] at hx152_2); (try rw [show 0 * 4 = 0 from rfl] at hx152_2); (try rw [Addr.add_zero'] at hx152_2); (try rw [show ((0 : Int)).toNat = 0 from rfl] at hx152_3); (try rw [show 0 * 4 = 0 from rfl] at hx152_3); (try rw [Addr.add_zero'] at hx152_3); replace p152 := eq_true p152; replace q152 := eq_true q152))
      go_ret
      exact ⟨by first | rfl | (simp <;> rfl) | (simp [*] <;> rfl), by repeat (first | (with_reducible first | exact HB.out | apply xA2 | apply xA0 | apply xA3) | exact HB.out)⟩
    ·rw [if_neg c6] at H
     exact absurd H (by simp)
   ·rw [if_neg c5] at H
    have c5b0 : ((t147.length : Int) == 1) = false := beq_eq_false_iff_ne.mpr c5
    have c5b1 : ((t147.length : Int) != 1) = true := bne_iff_ne.mpr c5
    obtain rfl := Option.some.inj H
    go_enter Tryd.func53, Tryd.ntmps53
    go_wp2_with (first | ((with_reducible refine xAo (f := 17) rfl ?_); refine xBo (some 9) rfl rfl Tryd.func17 (by kernel_rfl) rfl #[.string ((⟨#[36]⟩ : ByteArray) ++ a0)] rfl (by (try simp only [List.map_toArray, List.map_cons, List.map_nil]); first | done | rfl | (simp only [List.length_drop, List.length_take]; rfl)) ?_; (with_reducible refine (xBi.calls k ((⟨#[36]⟩ : ByteArray) ++ a0) t147 t148 t149 _ A3.out).mono ?_); rintro e w12 ⟨v150, rfl, ho0, hb⟩; refine ⟨_, rfl, ?_⟩; have n0_ := Aside0.mk (Kd.R_lower ho0 (xBa (by repeat (first | (with_reducible first | exact HB.out | apply xA2 | apply xA0 | apply xA3) | exact HB.out)))); have n1_ := Aside0.mk (xAz (by repeat (first | (with_reducible first | exact HB.out | apply xA2 | apply xA0 | apply xA3) | exact HB.out)) hb); clear HB; have HO151 := n0_; have HB := n1_; clear n0_ n1_; (try clear hb); (try clear hb2); (try clear hk); (try clear hi); (try clear ho0); obtain ⟨Ao13, co13, eo13⟩ := Kd.R_slice HO151.out; subst eo13))
    go_ret
    exact ⟨by first | rfl | (simp <;> rfl) | (simp [*] <;> rfl), by repeat (first | (with_reducible first | exact HB.out | apply xA2 | apply xA0 | apply xA3) | exact HB.out)⟩
  ·rw [if_neg c4] at H
   have c4b0 : (t148 == 0) = false := beq_eq_false_iff_ne.mpr c4
   have c4b1 : (t148 != 0) = true := bne_iff_ne.mpr c4
   obtain rfl := Option.some.inj H
   go_enter Tryd.func53, Tryd.ntmps53
   go_wp2_with (first | ((with_reducible refine xAo (f := 17) rfl ?_); refine xBo (some 9) rfl rfl Tryd.func17 (by kernel_rfl) rfl #[.string ((⟨#[36]⟩ : ByteArray) ++ a0)] rfl (by (try simp only [List.map_toArray, List.map_cons, List.map_nil]); first | done | rfl | (simp only [List.length_drop, List.length_take]; rfl)) ?_; (with_reducible refine (xBi.calls k ((⟨#[36]⟩ : ByteArray) ++ a0) t147 t148 t149 _ A3.out).mono ?_); rintro e w14 ⟨v150, rfl, ho0, hb⟩; refine ⟨_, rfl, ?_⟩; have n0_ := Aside0.mk (Kd.R_lower ho0 (xBa (by repeat (first | (with_reducible first | exact HB.out | apply xA2 | apply xA0 | apply xA3) | exact HB.out)))); have n1_ := Aside0.mk (xAz (by repeat (first | (with_reducible first | exact HB.out | apply xA2 | apply xA0 | apply xA3) | exact HB.out)) hb); clear HB; have HO151 := n0_; have HB := n1_; clear n0_ n1_; (try clear hb); (try clear hb2); (try clear hk); (try clear hi); (try clear ho0)))
   go_ret
   exact ⟨by first | rfl | (simp <;> rfl) | (simp [*] <;> rfl), by repeat (first | (with_reducible first | exact HB.out | apply xA2 | apply xA0 | apply xA3) | exact HB.out)⟩
 ·rw [if_neg c2] at H
  exact absurd H (by simp)

end Go.Proofs.YtknbfhhmjbnemaaDoor.P
end
section
namespace Go.Proofs.YtknbfhhmjbnemaaDoor.P
open Go.RowKit Go.Proofs.YtknbfhhmjbnemaaDoorW.PrintWords Go.Proofs.YtknbfhhmjbnemaaDoorW.PrintLast Go.Proofs.YtknbfhhmjbnemaaDoorW.PrintMore
attribute [local go_sem] xBh xBp

/-! ### xAp: function 26 -/
mutual
def xAp.j0 : Nat → ByteArray → Bool → ByteArray → ByteArray → Int → Int → List (S25) → Option (Bool)
 | 0, _, _, _, _, _, _, _ => none
 | k + 1, x9, x10, x170000, x170001, x170002, x170003, x170004 => if x10 = true then (if (x170004.length : Int) = 0 then ((xCm.f x170002).bind fun t171 => (some t171)) else (some false)) else (if x9.toList = ([101, 120, 112, 111, 114, 116] : List UInt8) then (if (x170004.length : Int) = 0 then (if x170002 = 0 then (some true) else (some (x170002 == 1))) else (some false)) else (if x170002 = 0 then (xAp.j1 k ((x170004.length : Int) != 1) x170000 x170001 x170002 x170003 x170004) else (xAp.j1 k true x170000 x170001 x170002 x170003 x170004)))
def xAp.j1 : Nat → Bool → ByteArray → ByteArray → Int → Int → List (S25) → Option (Bool)
 | 0, _, _, _, _, _, _ => none
 | k + 1, x46, x170000, x170001, x170002, x170003, x170004 => if x46 = true then (some false) else (if 0 < (x170004.length : Int) then (if x170000.toList = ([107, 101, 121] : List UInt8) then (xAp.j2 k (x170000.toList == ([107, 101, 121] : List UInt8)) x170000 x170001 x170002 x170003 x170004 ((xAd x170004 0).f0) ((xAd x170004 0).f1) ((xAd x170004 0).f2) ((xAd x170004 0).f3) ((xAd x170004 0).f4)) else (xAp.j2 k (x170000.toList == ([114, 111, 111, 116] : List UInt8)) x170000 x170001 x170002 x170003 x170004 ((xAd x170004 0).f0) ((xAd x170004 0).f1) ((xAd x170004 0).f2) ((xAd x170004 0).f3) ((xAd x170004 0).f4))) else (none))
def xAp.j2 : Nat → Bool → ByteArray → ByteArray → Int → Int → List (S25) → ByteArray → ByteArray → Int → Int → List (S25) → Option (Bool)
 | 0, _, _, _, _, _, _, _, _, _, _, _ => none
 | k + 1, x53, x170000, x170001, x170002, x170003, x170004, x174000, x174001, x174002, x174003, x174004 => if x53 = true then (if x174000.toList = ([104, 101, 120] : List UInt8) then (if x174002 = 0 then (if (x174004.length : Int) = 0 then ((xEo.f k x174001).bind fun t174 => (some t174)) else (some false)) else (some false)) else (some false)) else (if x170000.toList = ([118, 111, 108, 117, 109, 101] : List UInt8) then ((xAl.f k x174000 x174001 x174002 x174003 x174004 1).bind fun t175 => (some t175)) else (some false))
end
def xAp.f (k : Nat) (a0_0 : ByteArray) (a0_1 : ByteArray) (a0_2 : Int) (a0_3 : Int) (l0_4 : List (S25)) : Option (Bool) := (xCv.f k a0_1).bind fun t170 => (if t170 = true then (if a0_0.toList = ([100, 101, 118, 105, 99, 101] : List UInt8) then (xAp.j0 k a0_0 (a0_0.toList == ([100, 101, 118, 105, 99, 101] : List UInt8)) a0_0 a0_1 a0_2 a0_3 l0_4) else (xAp.j0 k a0_0 (a0_0.toList == ([106, 111, 117, 114, 110, 97, 108] : List UInt8)) a0_0 a0_1 a0_2 a0_3 l0_4)) else (some false))
set_option maxHeartbeats 8000000 in
set_option maxRecDepth 100000 in
theorem xAp.calls (k : Nat) (a0_0 : ByteArray) (a0_1 : ByteArray) (a0_2 : Int) (a0_3 : Int) (A0_4 : Option Addr) (c0_4 : Nat) (l0_4 : List (S25)) (r : Bool) (w : World) (hr0_4 : Kd.C k25 w A0_4 l0_4.length l0_4) (hc0_4 : l0_4.length ≤ c0_4) (h : xAp.f k a0_0 a0_1 a0_2 a0_3 l0_4 = some r) (m_ : Int) (hm_ : w.cell? ⟨0, 0, none⟩ = some (.int .i64 m_)) :
  Calls Tryd.prog 26 #[.agg #[.string a0_0, .string a0_1, .int .i64 a0_2, .int .i64 a0_3, .slice A0_4 l0_4.length c0_4]] w fun e w' => e = .returned (.bool r) ∧ Below w.heap.size w w' := by
 have hmA_ := Aside0.mk hm_
 clear hm_
 have hu25 := Tryd.underlying25
 have HR0_4 := Aside0.mk hr0_4
 have HC0_4 := Aside0.mk hc0_4
 clear hr0_4 hc0_4
 have HB := Aside0.mk (Below.refl w.heap.size w)
 have H : ((xCv.f k a0_1).bind fun t170 => (if t170 = true then (if a0_0.toList = ([100, 101, 118, 105, 99, 101] : List UInt8) then (xAp.j0 k a0_0 (a0_0.toList == ([100, 101, 118, 105, 99, 101] : List UInt8)) a0_0 a0_1 a0_2 a0_3 l0_4) else (xAp.j0 k a0_0 (a0_0.toList == ([106, 111, 117, 114, 110, 97, 108] : List UInt8)) a0_0 a0_1 a0_2 a0_3 l0_4)) else (some false))) = some r := h
 clear h
 replace H := Option.bind_eq_some_iff.mp H
 obtain ⟨t170, A20, H⟩ := H
 replace H : (if t170 = true then (if a0_0.toList = ([100, 101, 118, 105, 99, 101] : List UInt8) then (xAp.j0 k a0_0 (a0_0.toList == ([100, 101, 118, 105, 99, 101] : List UInt8)) a0_0 a0_1 a0_2 a0_3 l0_4) else (xAp.j0 k a0_0 (a0_0.toList == ([106, 111, 117, 114, 110, 97, 108] : List UInt8)) a0_0 a0_1 a0_2 a0_3 l0_4)) else (some false)) = some r := H
 have A2 := Aside0.mk A20
 clear A20
 by_cases c3 : t170 = true
 ·subst c3
  have H1 : (if a0_0.toList = ([100, 101, 118, 105, 99, 101] : List UInt8) then (xAp.j0 k a0_0 (a0_0.toList == ([100, 101, 118, 105, 99, 101] : List UInt8)) a0_0 a0_1 a0_2 a0_3 l0_4) else (xAp.j0 k a0_0 (a0_0.toList == ([106, 111, 117, 114, 110, 97, 108] : List UInt8)) a0_0 a0_1 a0_2 a0_3 l0_4)) = some r := by rw [if_pos rfl] at H; exact H
  clear H
  have H := H1
  clear H1
  have HC4 := Aside0.mk H
  clear H
  go_enter Tryd.func26, Tryd.ntmps26
  go_upto_if 10 with (first | ((with_reducible refine xB0 (N := 1) rfl ?_); (try (refine xCi (by rfl) ?_; dsimp only)); refine xB9 ?hg (N := 1) ?hd (cs := #[.string a0_0, .string a0_1, .int .i64 a0_2, .int .i64 a0_3, .slice A0_4 l0_4.length c0_4]) (t := 25) ?hr ?_; (case hd => rfl); (case hg => rfl); (case hr => first | (go_simp; done) | (go_simp; rfl)); intro gb169 hg w5 hbox hb; have n0_ := Aside0.mk (xAz (by repeat (first | (with_reducible first | exact HB.out | apply xA2 | apply xA0 | apply xA3) | exact HB.out)) hb); have n1_ := Aside0.mk (hbox); have n2_ := Aside0.mk ((by rw [hg]; exact (xBa (by repeat (first | (with_reducible first | exact HB.out | apply xA2 | apply xA0 | apply xA3) | exact HB.out))) : w.heap.size ≤ gb169)); have n3_ := Aside0.mk ((by rw [hg]; exact (xBa (by repeat (first | (with_reducible first | exact HB.out | apply xA2 | apply xA0 | apply xA3) | exact HB.out))) : w.heap.size ≤ gb169)); clear HB; have HB := n0_; have BK169 := n1_; have GW169 := n2_; have GE169 := n3_; clear n0_ n1_ n2_ n3_; clear hb hbox hg; obtain ⟨hcz6_0, hcz6_1, hcz6_2, hcz6_3, hcz6_4, hfz6_0, hfz6_1, hfz6_2, hfz6_3, hfz6_4⟩ := ex5 BK169.out) | ((with_reducible refine xAo (f := 51) rfl ?_); refine xBo (some 6) rfl rfl Tryd.func51 (by kernel_rfl) rfl #[.string a0_1] rfl (by (try simp only [List.map_toArray, List.map_cons, List.map_nil]); first | done | rfl | (simp only [List.length_drop, List.length_take]; rfl)) ?_; (with_reducible refine (xCv.calls k a0_1 true _ A2.out m_ (by first | (with_reducible exact hmA_.out) | exact xCa hmA_.out (by repeat (first | (with_reducible first | exact HB.out | apply xA2 | apply xA0 | apply xA3 | refine xAa ?_ GE169.out | refine xAa ?_ GE173.out) | exact HB.out)) | (repeat (first | exact hmA_.out | refine xC3 ?_ | refine mlen_drew ?_)))).mono ?_); rintro e w7 ⟨rfl, hb⟩; refine ⟨_, rfl, ?_⟩; have n0_ := Aside0.mk (xAx (g := gb169) (o := .cells #[.string a0_0, .string a0_1, .int .i64 a0_2, .int .i64 a0_3, .slice A0_4 l0_4.length c0_4] 25 (0, 0)) (by (with_reducible repeat (first | refine xA7 ?_ _ | refine xAc ?_ | refine xA6 ?_ _)); exact BK169.out) hb); have n1_ := Aside0.mk (xAz (by repeat (first | (with_reducible first | exact HB.out | apply xA2 | apply xA0 | apply xA3 | refine xAa ?_ GE169.out) | exact HB.out)) hb); clear BK169; clear HB; have BK169 := n0_; have HB := n1_; clear n0_ n1_; (try clear hb); (try clear hb2); (try clear hk); (try clear hi); obtain ⟨hcz8_0, hcz8_1, hcz8_2, hcz8_3, hcz8_4, hfz8_0, hfz8_1, hfz8_2, hfz8_3, hfz8_4⟩ := ex5 BK169.out))
  (try simp only [Act.put, List.setIfInBounds_toArray, List.set_cons_zero, List.set_cons_succ])
  go_cut [10] (fun v10 wc => ∃ (kq : Nat) (x10_3 : Bool), v10 = .bool x10_3 ∧ Aside0 (xAp.j0 kq a0_0 x10_3 a0_0 a0_1 a0_2 a0_3 l0_4 = some r) ∧ Aside0 (kq ≤ k) ∧ Aside0 (wc.heap[gb169]? = some (.cells #[.string a0_0, .string a0_1, .int .i64 a0_2, .int .i64 a0_3, (.slice A0_4 l0_4.length c0_4)] 25 (0, 0))) ∧ Aside0 (Below w.heap.size w wc))
  case first =>
   have H := HC4.out
   clear HC4
   by_cases c9 : a0_0.toList = ([100, 101, 118, 105, 99, 101] : List UInt8)
   ·rw [if_pos c9] at H
    have c9b0 : (a0_0.toList == ([100, 101, 118, 105, 99, 101] : List UInt8)) = true := beq_iff_eq.mpr c9
    have c9b1 : (a0_0.toList != ([100, 101, 118, 105, 99, 101] : List UInt8)) = false := bne_eq_false_iff_eq.mpr c9
    clear c9
    (first | rw [c9b0] | (simp only [xB1, xB2]; rw [c9b0]) | skip)
    have H' := Aside0.mk H
    clear H
    go_wp2
    go_meet
    case rel => exact ⟨_, ((a0_0.toList == ([100, 101, 118, 105, 99, 101] : List UInt8))), (by first | rfl | (simp; done) | (simp [*]; done)), H', ⟨by first | omega | exact Nat.le_refl _⟩, ⟨by (with_reducible repeat (first | refine xA7 ?_ _ | refine xAc ?_ | refine xA6 ?_ _)); exact BK169.out⟩, ⟨by repeat (first | (with_reducible first | exact HB.out | apply xA2 | apply xA0 | apply xA3 | refine xAa ?_ GE169.out) | exact HB.out)⟩⟩
   ·rw [if_neg c9] at H
    have c9b0 : (a0_0.toList == ([100, 101, 118, 105, 99, 101] : List UInt8)) = false := beq_eq_false_iff_ne.mpr c9
    have c9b1 : (a0_0.toList != ([100, 101, 118, 105, 99, 101] : List UInt8)) = true := bne_iff_ne.mpr c9
    (first | rw [c9b0] | (simp only [xB1, xB2]; rw [c9b0]) | skip)
    have H' := Aside0.mk H
    clear H
    go_wp2
    go_meet
    case rel => exact ⟨_, ((a0_0.toList == ([106, 111, 117, 114, 110, 97, 108] : List UInt8))), (by first | rfl | (simp; done) | (simp [*]; done)), H', ⟨by first | omega | exact Nat.le_refl _⟩, ⟨by (with_reducible repeat (first | refine xA7 ?_ _ | refine xAc ?_ | refine xA6 ?_ _)); exact BK169.out⟩, ⟨by repeat (first | (with_reducible first | exact HB.out | apply xA2 | apply xA0 | apply xA3 | refine xAa ?_ GE169.out) | exact HB.out)⟩⟩
  case rest =>
   clear HC4
   try clear c2
   try clear p2
   try clear c3
   try clear c5
   try clear c9
   try clear c9b0
   try clear c9b1
   try clear hcz6_0 hcz6_1 hcz6_2 hcz6_3 hcz6_4
   try clear hcz8_0 hcz8_1 hcz8_2 hcz8_3 hcz8_4
   try clear hfz6_0 hfz6_1 hfz6_2 hfz6_3 hfz6_4
   try clear hfz8_0 hfz8_1 hfz8_2 hfz8_3 hfz8_4
   obtain ⟨kq, x10_3, rfl, HA, HJ3, BK169, HB⟩ := hcut
   cases kq with
   | zero => exact absurd HA.out (by simp [xAp.j0])
   | succ kj3 =>
    have H := HA.out
    clear HA
    simp only [xAp.j0] at H
    by_cases c10 : x10_3 = true
    ·subst c10
     have H1 : (if (l0_4.length : Int) = 0 then ((xCm.f a0_2).bind fun t171 => (some t171)) else (some false)) = some r := by rw [if_pos rfl] at H; exact H
     clear H
     have H := H1
     clear H1
     by_cases c11 : (l0_4.length : Int) = 0
     ·rw [if_pos c11] at H
      have c11b0 : ((l0_4.length : Int) == 0) = true := beq_iff_eq.mpr c11
      have c11b1 : ((l0_4.length : Int) != 0) = false := bne_eq_false_iff_eq.mpr c11
      clear c11
      replace H := Option.bind_eq_some_iff.mp H
      obtain ⟨t171, A120, H⟩ := H
      replace H : (some t171) = some r := H
      have A12 := Aside0.mk A120
      clear A120
      obtain rfl := Option.some.inj H
      obtain ⟨hcz13_0, hcz13_1, hcz13_2, hcz13_3, hcz13_4, hfz13_0, hfz13_1, hfz13_2, hfz13_3, hfz13_4⟩ := ex5 BK169.out
      go_wp2_with (first | (go_at_call 52; (with_reducible refine (xCm.calls a0_2 t171 _ A12.out).mono ?_); rintro e w' ⟨rfl, ⟨nd, rfl⟩⟩))
      go_ret
      exact ⟨by first | rfl | (simp <;> rfl) | (simp [*] <;> rfl), by repeat (first | (with_reducible first | exact HB.out | apply xA2 | apply xA0 | apply xA3 | refine xAa ?_ GE169.out) | exact HB.out)⟩
     ·rw [if_neg c11] at H
      have c11b0 : ((l0_4.length : Int) == 0) = false := beq_eq_false_iff_ne.mpr c11
      have c11b1 : ((l0_4.length : Int) != 0) = true := bne_iff_ne.mpr c11
      have c11b2 : ¬ (l0_4 = []) := fun h_ => c11 (by rw [h_]; rfl)
      obtain rfl := Option.some.inj H
      obtain ⟨hcz14_0, hcz14_1, hcz14_2, hcz14_3, hcz14_4, hfz14_0, hfz14_1, hfz14_2, hfz14_3, hfz14_4⟩ := ex5 BK169.out
      go_wp2
      go_ret
      exact ⟨by first | rfl | (simp <;> rfl) | (simp [*] <;> rfl), by repeat (first | (with_reducible first | exact HB.out | apply xA2 | apply xA0 | apply xA3 | refine xAa ?_ GE169.out) | exact HB.out)⟩
    ·replace c10 := Bool.eq_false_iff.mpr c10
     subst c10
     have H1 : (if a0_0.toList = ([101, 120, 112, 111, 114, 116] : List UInt8) then (if (l0_4.length : Int) = 0 then (if a0_2 = 0 then (some true) else (some (a0_2 == 1))) else (some false)) else (if a0_2 = 0 then (xAp.j1 kj3 ((l0_4.length : Int) != 1) a0_0 a0_1 a0_2 a0_3 l0_4) else (xAp.j1 kj3 true a0_0 a0_1 a0_2 a0_3 l0_4))) = some r := by rw [if_neg (show ¬ (false = true) by decide)] at H; exact H
     clear H
     have H := H1
     clear H1
     by_cases c15 : a0_0.toList = ([101, 120, 112, 111, 114, 116] : List UInt8)
     ·rw [if_pos c15] at H
      have c15b0 : (a0_0.toList == ([101, 120, 112, 111, 114, 116] : List UInt8)) = true := beq_iff_eq.mpr c15
      have c15b1 : (a0_0.toList != ([101, 120, 112, 111, 114, 116] : List UInt8)) = false := bne_eq_false_iff_eq.mpr c15
      clear c15
      by_cases c16 : (l0_4.length : Int) = 0
      ·rw [if_pos c16] at H
       have c16b0 : ((l0_4.length : Int) == 0) = true := beq_iff_eq.mpr c16
       have c16b1 : ((l0_4.length : Int) != 0) = false := bne_eq_false_iff_eq.mpr c16
       clear c16
       by_cases c17 : a0_2 = 0
       ·rw [if_pos c17] at H
        have c17b0 : (a0_2 == 0) = true := beq_iff_eq.mpr c17
        have c17b1 : (a0_2 != 0) = false := bne_eq_false_iff_eq.mpr c17
        clear c17
        obtain rfl := Option.some.inj H
        obtain ⟨hcz18_0, hcz18_1, hcz18_2, hcz18_3, hcz18_4, hfz18_0, hfz18_1, hfz18_2, hfz18_3, hfz18_4⟩ := ex5 BK169.out
        go_wp2
        go_ret
        exact ⟨by first | rfl | (simp <;> rfl) | (simp [*] <;> rfl), by repeat (first | (with_reducible first | exact HB.out | apply xA2 | apply xA0 | apply xA3 | refine xAa ?_ GE169.out) | exact HB.out)⟩
       ·rw [if_neg c17] at H
        have c17b0 : (a0_2 == 0) = false := beq_eq_false_iff_ne.mpr c17
        have c17b1 : (a0_2 != 0) = true := bne_iff_ne.mpr c17
        obtain rfl := Option.some.inj H
        obtain ⟨hcz19_0, hcz19_1, hcz19_2, hcz19_3, hcz19_4, hfz19_0, hfz19_1, hfz19_2, hfz19_3, hfz19_4⟩ := ex5 BK169.out
        go_wp2
        go_ret
        exact ⟨by first | rfl | (simp <;> rfl) | (simp [*] <;> rfl), by repeat (first | (with_reducible first | exact HB.out | apply xA2 | apply xA0 | apply xA3 | refine xAa ?_ GE169.out) | exact HB.out)⟩
      ·rw [if_neg c16] at H
       have c16b0 : ((l0_4.length : Int) == 0) = false := beq_eq_false_iff_ne.mpr c16
       have c16b1 : ((l0_4.length : Int) != 0) = true := bne_iff_ne.mpr c16
       have c16b2 : ¬ (l0_4 = []) := fun h_ => c16 (by rw [h_]; rfl)
       obtain rfl := Option.some.inj H
       obtain ⟨hcz20_0, hcz20_1, hcz20_2, hcz20_3, hcz20_4, hfz20_0, hfz20_1, hfz20_2, hfz20_3, hfz20_4⟩ := ex5 BK169.out
       go_wp2
       go_ret
       exact ⟨by first | rfl | (simp <;> rfl) | (simp [*] <;> rfl), by repeat (first | (with_reducible first | exact HB.out | apply xA2 | apply xA0 | apply xA3 | refine xAa ?_ GE169.out) | exact HB.out)⟩
     ·rw [if_neg c15] at H
      have c15b0 : (a0_0.toList == ([101, 120, 112, 111, 114, 116] : List UInt8)) = false := beq_eq_false_iff_ne.mpr c15
      have c15b1 : (a0_0.toList != ([101, 120, 112, 111, 114, 116] : List UInt8)) = true := bne_iff_ne.mpr c15
      have HC21 := Aside0.mk H
      clear H
      go_upto_region 9 with (fail)
      go_cut [46] (fun v46 wc => ∃ (kq : Nat) (x46_20 : Bool), v46 = .bool x46_20 ∧ Aside0 (xAp.j1 kq x46_20 a0_0 a0_1 a0_2 a0_3 l0_4 = some r) ∧ Aside0 (kq ≤ kj3) ∧ Aside0 (wc.heap[gb169]? = some (.cells #[.string a0_0, .string a0_1, .int .i64 a0_2, .int .i64 a0_3, (.slice A0_4 l0_4.length c0_4)] 25 (0, 0))) ∧ Aside0 (Below w.heap.size w wc))
      case first =>
       have H := HC21.out
       clear HC21
       by_cases c22 : a0_2 = 0
       ·rw [if_pos c22] at H
        have c22b0 : (a0_2 == 0) = true := beq_iff_eq.mpr c22
        have c22b1 : (a0_2 != 0) = false := bne_eq_false_iff_eq.mpr c22
        clear c22
        (first | rw [c22b0] | (simp only [xB1, xB2]; rw [c22b0]) | skip)
        have H' := Aside0.mk H
        clear H
        obtain ⟨hcz23_0, hcz23_1, hcz23_2, hcz23_3, hcz23_4, hfz23_0, hfz23_1, hfz23_2, hfz23_3, hfz23_4⟩ := ex5 BK169.out
        go_wp2
        go_meet
        case rel => exact ⟨_, (((l0_4.length : Int) != 1)), (by first | rfl | (simp; done) | (simp [*]; done)), H', ⟨by have := HJ3.out; first | omega | exact Nat.le_refl _⟩, ⟨by (with_reducible repeat (first | refine xA7 ?_ _ | refine xAc ?_ | refine xA6 ?_ _)); exact BK169.out⟩, ⟨by repeat (first | (with_reducible first | exact HB.out | apply xA2 | apply xA0 | apply xA3 | refine xAa ?_ GE169.out) | exact HB.out)⟩⟩
       ·rw [if_neg c22] at H
        have c22b0 : (a0_2 == 0) = false := beq_eq_false_iff_ne.mpr c22
        have c22b1 : (a0_2 != 0) = true := bne_iff_ne.mpr c22
        (first | rw [c22b0] | (simp only [xB1, xB2]; rw [c22b0]) | skip)
        have H' := Aside0.mk H
        clear H
        obtain ⟨hcz24_0, hcz24_1, hcz24_2, hcz24_3, hcz24_4, hfz24_0, hfz24_1, hfz24_2, hfz24_3, hfz24_4⟩ := ex5 BK169.out
        go_wp2
        go_meet
        case rel => exact ⟨_, (true), (by first | rfl | (simp; done) | (simp [*]; done)), H', ⟨by have := HJ3.out; first | omega | exact Nat.le_refl _⟩, ⟨by (with_reducible repeat (first | refine xA7 ?_ _ | refine xAc ?_ | refine xA6 ?_ _)); exact BK169.out⟩, ⟨by repeat (first | (with_reducible first | exact HB.out | apply xA2 | apply xA0 | apply xA3 | refine xAa ?_ GE169.out) | exact HB.out)⟩⟩
      case rest =>
       clear HC21
       try clear c1
       try clear c2
       try clear p2
       try clear c3
       try clear c5
       try clear c9
       try clear c9b0
       try clear c9b1
       try clear c10
       try clear c11
       try clear c11b0
       try clear c11b1
       try clear c11b2
       try clear c15
       try clear c15b0
       try clear c15b1
       try clear c16
       try clear c16b0
       try clear c16b1
       try clear c16b2
       try clear c17
       try clear c17b0
       try clear c17b1
       try clear c22
       try clear c22b0
       try clear c22b1
       try clear hcz13_0 hcz13_1 hcz13_2 hcz13_3 hcz13_4
       try clear hcz14_0 hcz14_1 hcz14_2 hcz14_3 hcz14_4
       try clear hcz18_0 hcz18_1 hcz18_2 hcz18_3 hcz18_4
       try clear hcz19_0 hcz19_1 hcz19_2 hcz19_3 hcz19_4
       try clear hcz20_0 hcz20_1 hcz20_2 hcz20_3 hcz20_4
       try clear hcz23_0 hcz23_1 hcz23_2 hcz23_3 hcz23_4
       try clear hcz24_0 hcz24_1 hcz24_2 hcz24_3 hcz24_4
       try clear hcz6_0 hcz6_1 hcz6_2 hcz6_3 hcz6_4
       try clear hcz8_0 hcz8_1 hcz8_2 hcz8_3 hcz8_4
       try clear hfz13_0 hfz13_1 hfz13_2 hfz13_3 hfz13_4
       try clear hfz14_0 hfz14_1 hfz14_2 hfz14_3 hfz14_4
       try clear hfz18_0 hfz18_1 hfz18_2 hfz18_3 hfz18_4
       try clear hfz19_0 hfz19_1 hfz19_2 hfz19_3 hfz19_4
       try clear hfz20_0 hfz20_1 hfz20_2 hfz20_3 hfz20_4
       try clear hfz23_0 hfz23_1 hfz23_2 hfz23_3 hfz23_4
       try clear hfz24_0 hfz24_1 hfz24_2 hfz24_3 hfz24_4
       try clear hfz6_0 hfz6_1 hfz6_2 hfz6_3 hfz6_4
       try clear hfz8_0 hfz8_1 hfz8_2 hfz8_3 hfz8_4
       try clear p2
       obtain ⟨kq, x46_20, rfl, HA, HJ20, BK169, HB⟩ := hcut
       cases kq with
       | zero => exact absurd HA.out (by simp [xAp.j1])
       | succ kj20 =>
        have H := HA.out
        clear HA
        simp only [xAp.j1] at H
        by_cases c25 : x46_20 = true
        ·subst c25
         have H1 : (some false) = some r := by rw [if_pos rfl] at H; exact H
         clear H
         have H := H1
         clear H1
         obtain rfl := Option.some.inj H
         go_wp2
         go_ret
         exact ⟨by first | rfl | (simp <;> rfl) | (simp [*] <;> rfl), by repeat (first | (with_reducible first | exact HB.out | apply xA2 | apply xA0 | apply xA3 | refine xAa ?_ GE169.out) | exact HB.out)⟩
        ·replace c25 := Bool.eq_false_iff.mpr c25
         subst c25
         have H1 : (if 0 < (l0_4.length : Int) then (if a0_0.toList = ([107, 101, 121] : List UInt8) then (xAp.j2 kj20 (a0_0.toList == ([107, 101, 121] : List UInt8)) a0_0 a0_1 a0_2 a0_3 l0_4 ((xAd l0_4 0).f0) ((xAd l0_4 0).f1) ((xAd l0_4 0).f2) ((xAd l0_4 0).f3) ((xAd l0_4 0).f4)) else (xAp.j2 kj20 (a0_0.toList == ([114, 111, 111, 116] : List UInt8)) a0_0 a0_1 a0_2 a0_3 l0_4 ((xAd l0_4 0).f0) ((xAd l0_4 0).f1) ((xAd l0_4 0).f2) ((xAd l0_4 0).f3) ((xAd l0_4 0).f4))) else (none)) = some r := by rw [if_neg (show ¬ (false = true) by decide)] at H; exact H
         clear H
         have H := H1
         clear H1
         by_cases c26 : 0 < (l0_4.length : Int)
         ·rw [if_pos c26] at H
          have c26b0 : decide (0 < (l0_4.length : Int)) = true := decide_eq_true c26
          have c26b1 : decide (0 < l0_4.length) = true := decide_eq_true (by omega)
          clear c26
          have HC27 := Aside0.mk H
          clear H
          obtain ⟨hcz28_0, hcz28_1, hcz28_2, hcz28_3, hcz28_4, hfz28_0, hfz28_1, hfz28_2, hfz28_3, hfz28_4⟩ := ex5 BK169.out
          have p172 : 0 ≤ (0 : Int) := (by omega)
          have q172 : 0 < (l0_4.length : Int) := of_decide_eq_true (by first | (with_reducible assumption) | assumption)
          obtain ⟨ad172, A172_4, c172_4, e172, hx172_0, hx172_1, hx172_2, hx172_3, hx172_4, hl172_4, hi172_4⟩ := xEg HR0_4.out 0 p172 q172
          cases e172
          have qi172 : (0 < l0_4.length) = True := eq_true (by omega)
          (try rw [show ((0 : Int)).toNat = 0 from rfl] at hx172_0)
          (try rw [show 0 * 5 = 0 from rfl] at hx172_0)
          (try rw [Addr.add_zero'] at hx172_0)
          (try rw [show ((0 : Int)).toNat = 0 from rfl] at hx172_1)
          (try rw [show 0 * 5 = 0 from rfl] at hx172_1)
          (try rw [Addr.add_zero'] at hx172_1)
          (try rw [show ((0 : Int)).toNat = 0 from rfl] at hx172_2)
          (try rw [show 0 * 5 = 0 from rfl] at hx172_2)
          (try rw [Addr.add_zero'] at hx172_2)
          (try rw [show ((0 : Int)).toNat = 0 from rfl] at hx172_3)
          (try rw [show 0 * 5 = 0 from rfl] at hx172_3)
          (try rw [Addr.add_zero'] at hx172_3)
          (try rw [show ((0 : Int)).toNat = 0 from rfl] at hx172_4)
          (try rw [show 0 * 5 = 0 from rfl] at hx172_4)
          (try rw [Addr.add_zero'] at hx172_4)
          replace hx172_0 := (HB.out.cell (World.block_lt_of_cell? w _ hx172_0)).trans hx172_0
          replace hx172_1 := (HB.out.cell (World.block_lt_of_cell? w _ hx172_1)).trans hx172_1
          replace hx172_2 := (HB.out.cell (World.block_lt_of_cell? w _ hx172_2)).trans hx172_2
          replace hx172_3 := (HB.out.cell (World.block_lt_of_cell? w _ hx172_3)).trans hx172_3
          replace hx172_4 := (HB.out.cell (World.block_lt_of_cell? w _ hx172_4)).trans hx172_4
          have HR172_4 := Aside0.mk hi172_4
          have HC172_4 := Aside0.mk hl172_4
          clear hi172_4 hl172_4
          replace p172 := eq_true p172
          replace q172 := eq_true q172
          go_upto_if 53 with (first | ((with_reducible refine xB0 (N := 3) rfl ?_); (try (refine xCi (by rfl) ?_; dsimp only)); refine xB9 ?hg (N := 3) ?hd (cs := #[.string (⟨#[]⟩ : ByteArray), .string (⟨#[]⟩ : ByteArray), .int .i64 0, .int .i64 0, .slice none 0 0]) (t := 25) ?hr ?_; (case hd => rfl); (case hg => rfl); (case hr => first | (go_simp; done) | (go_simp; rfl)); intro gb173 hg w29 hbox hb; have n0_ := Aside0.mk (xAx (g := gb169) (o := .cells #[.string a0_0, .string a0_1, .int .i64 a0_2, .int .i64 a0_3, .slice (some ad172) l0_4.length c0_4] 25 (0, 0)) (by (with_reducible repeat (first | refine xA7 ?_ _ | refine xAc ?_ | refine xA6 ?_ _)); exact BK169.out) hb); have n1_ := Aside0.mk (xAz (by repeat (first | (with_reducible first | exact HB.out | apply xA2 | apply xA0 | apply xA3 | refine xAa ?_ GE169.out) | exact HB.out)) hb); have n2_ := Aside0.mk (hbox); have n3_ := Aside0.mk ((by rw [hg]; exact (xBa (by repeat (first | (with_reducible first | exact HB.out | apply xA2 | apply xA0 | apply xA3 | refine xAa ?_ GE169.out) | exact HB.out))) : w.heap.size ≤ gb173)); have n4_ := Aside0.mk ((by rw [hg]; exact (xBa (by repeat (first | (with_reducible first | exact HB.out | apply xA2 | apply xA0 | apply xA3 | refine xAa ?_ GE169.out) | exact HB.out))) : w.heap.size ≤ gb173)); have n5_ := Aside0.mk ((by rw [hg]; exact Nat.ne_of_lt (xBs (g := gb169) (o := .cells #[.string a0_0, .string a0_1, .int .i64 a0_2, .int .i64 a0_3, .slice (some ad172) l0_4.length c0_4] 25 (0, 0)) (by (with_reducible repeat (first | refine xA7 ?_ _ | refine xAc ?_ | refine xA6 ?_ _)); exact BK169.out)) : gb169 ≠ gb173)); have n6_ := Aside0.mk ((by rw [hg]; exact Nat.ne_of_gt (xBs (g := gb169) (o := .cells #[.string a0_0, .string a0_1, .int .i64 a0_2, .int .i64 a0_3, .slice (some ad172) l0_4.length c0_4] 25 (0, 0)) (by (with_reducible repeat (first | refine xA7 ?_ _ | refine xAc ?_ | refine xA6 ?_ _)); exact BK169.out)) : gb173 ≠ gb169)); clear BK169; clear HB; have BK169 := n0_; have HB := n1_; have BK173 := n2_; have GW173 := n3_; have GE173 := n4_; have NB169_173 := n5_; have NB173_169 := n6_; clear n0_ n1_ n2_ n3_ n4_ n5_ n6_; clear hb hbox hg; have hnb30 := NB173_169.out; have hnc30 := NB169_173.out; obtain ⟨hcz31_0, hcz31_1, hcz31_2, hcz31_3, hcz31_4, hfz31_0, hfz31_1, hfz31_2, hfz31_3, hfz31_4⟩ := ex5 BK173.out; obtain ⟨hcz32_0, hcz32_1, hcz32_2, hcz32_3, hcz32_4, hfz32_0, hfz32_1, hfz32_2, hfz32_3, hfz32_4⟩ := ex5 BK169.out))
          (try simp only [Act.put, List.setIfInBounds_toArray, List.set_cons_zero, List.set_cons_succ])
          go_cut [53] (fun v53 wc => ∃ (kq : Nat) (x53_26 : Bool), v53 = .bool x53_26 ∧ Aside0 (xAp.j2 kq x53_26 a0_0 a0_1 a0_2 a0_3 l0_4 ((xAd l0_4 0).f0) ((xAd l0_4 0).f1) ((xAd l0_4 0).f2) ((xAd l0_4 0).f3) ((xAd l0_4 0).f4) = some r) ∧ Aside0 (kq ≤ kj20) ∧ Aside0 (wc.heap[gb169]? = some (.cells #[.string a0_0, .string a0_1, .int .i64 a0_2, .int .i64 a0_3, (.slice (some ad172) l0_4.length c0_4)] 25 (0, 0))) ∧ Aside0 (wc.heap[gb173]? = some (.cells #[.string ((xAd l0_4 0).f0), .string ((xAd l0_4 0).f1), .int .i64 ((xAd l0_4 0).f2), .int .i64 ((xAd l0_4 0).f3), (.slice A172_4 ((xAd l0_4 0).f4).length c172_4)] 25 (0, 0))) ∧ Aside0 (Below w.heap.size w wc))
          case first =>
           have H := HC27.out
           clear HC27
           by_cases c33 : a0_0.toList = ([107, 101, 121] : List UInt8)
           ·rw [if_pos c33] at H
            have c33b0 : (a0_0.toList == ([107, 101, 121] : List UInt8)) = true := beq_iff_eq.mpr c33
            have c33b1 : (a0_0.toList != ([107, 101, 121] : List UInt8)) = false := bne_eq_false_iff_eq.mpr c33
            clear c33
            (first | rw [c33b0] | (simp only [xB1, xB2]; rw [c33b0]) | skip)
            have H' := Aside0.mk H
            clear H
            go_wp2
            go_meet
            case rel => exact ⟨_, ((a0_0.toList == ([107, 101, 121] : List UInt8))), (by first | rfl | (simp; done) | (simp [*]; done)), H', ⟨by have := HJ3.out; have := HJ20.out; first | omega | exact Nat.le_refl _⟩, ⟨by (with_reducible repeat (first | refine xA7 ?_ _ | refine xAc ?_ | refine xA6 ?_ _)); refine xAh ?_ NB169_173.out _; (with_reducible repeat (first | refine xA7 ?_ _ | refine xAc ?_ | refine xA6 ?_ _)); refine xAh ?_ NB169_173.out _; (with_reducible repeat (first | refine xA7 ?_ _ | refine xAc ?_ | refine xA6 ?_ _)); refine xAh ?_ NB169_173.out _; (with_reducible repeat (first | refine xA7 ?_ _ | refine xAc ?_ | refine xA6 ?_ _)); refine xAh ?_ NB169_173.out _; (with_reducible repeat (first | refine xA7 ?_ _ | refine xAc ?_ | refine xA6 ?_ _)); refine xAh ?_ NB169_173.out _; (with_reducible repeat (first | refine xA7 ?_ _ | refine xAc ?_ | refine xA6 ?_ _)); exact BK169.out⟩, ⟨by (with_reducible repeat (first | refine xA7 ?_ _ | refine xAc ?_ | refine xA6 ?_ _)); refine xA1 (cs := #[.string ((xAd l0_4 0).f0), .string ((xAd l0_4 0).f1), .int .i64 ((xAd l0_4 0).f2), .int .i64 ((xAd l0_4 0).f3), .slice none 0 0]) ?_ 4 _ rfl; (with_reducible repeat (first | refine xA7 ?_ _ | refine xAc ?_ | refine xA6 ?_ _)); refine xA1 (cs := #[.string ((xAd l0_4 0).f0), .string ((xAd l0_4 0).f1), .int .i64 ((xAd l0_4 0).f2), .int .i64 0, .slice none 0 0]) ?_ 3 _ rfl; (with_reducible repeat (first | refine xA7 ?_ _ | refine xAc ?_ | refine xA6 ?_ _)); refine xA1 (cs := #[.string ((xAd l0_4 0).f0), .string ((xAd l0_4 0).f1), .int .i64 0, .int .i64 0, .slice none 0 0]) ?_ 2 _ rfl; (with_reducible repeat (first | refine xA7 ?_ _ | refine xAc ?_ | refine xA6 ?_ _)); refine xA1 (cs := #[.string ((xAd l0_4 0).f0), .string (⟨#[]⟩ : ByteArray), .int .i64 0, .int .i64 0, .slice none 0 0]) ?_ 1 _ rfl; (with_reducible repeat (first | refine xA7 ?_ _ | refine xAc ?_ | refine xA6 ?_ _)); refine xA1 (cs := #[.string (⟨#[]⟩ : ByteArray), .string (⟨#[]⟩ : ByteArray), .int .i64 0, .int .i64 0, .slice none 0 0]) ?_ 0 _ rfl; (with_reducible repeat (first | refine xA7 ?_ _ | refine xAc ?_ | refine xA6 ?_ _)); exact BK173.out⟩, ⟨by repeat (first | (with_reducible first | exact HB.out | apply xA2 | apply xA0 | apply xA3 | refine xAa ?_ GE169.out | refine xAa ?_ GE173.out) | exact HB.out)⟩⟩
           ·rw [if_neg c33] at H
            have c33b0 : (a0_0.toList == ([107, 101, 121] : List UInt8)) = false := beq_eq_false_iff_ne.mpr c33
            have c33b1 : (a0_0.toList != ([107, 101, 121] : List UInt8)) = true := bne_iff_ne.mpr c33
            (first | rw [c33b0] | (simp only [xB1, xB2]; rw [c33b0]) | skip)
            have H' := Aside0.mk H
            clear H
            go_wp2
            go_meet
            case rel => exact ⟨_, ((a0_0.toList == ([114, 111, 111, 116] : List UInt8))), (by first | rfl | (simp; done) | (simp [*]; done)), H', ⟨by have := HJ3.out; have := HJ20.out; first | omega | exact Nat.le_refl _⟩, ⟨by (with_reducible repeat (first | refine xA7 ?_ _ | refine xAc ?_ | refine xA6 ?_ _)); refine xAh ?_ NB169_173.out _; (with_reducible repeat (first | refine xA7 ?_ _ | refine xAc ?_ | refine xA6 ?_ _)); refine xAh ?_ NB169_173.out _; (with_reducible repeat (first | refine xA7 ?_ _ | refine xAc ?_ | refine xA6 ?_ _)); refine xAh ?_ NB169_173.out _; (with_reducible repeat (first | refine xA7 ?_ _ | refine xAc ?_ | refine xA6 ?_ _)); refine xAh ?_ NB169_173.out _; (with_reducible repeat (first | refine xA7 ?_ _ | refine xAc ?_ | refine xA6 ?_ _)); refine xAh ?_ NB169_173.out _; (with_reducible repeat (first | refine xA7 ?_ _ | refine xAc ?_ | refine xA6 ?_ _)); exact BK169.out⟩, ⟨by (with_reducible repeat (first | refine xA7 ?_ _ | refine xAc ?_ | refine xA6 ?_ _)); refine xA1 (cs := #[.string ((xAd l0_4 0).f0), .string ((xAd l0_4 0).f1), .int .i64 ((xAd l0_4 0).f2), .int .i64 ((xAd l0_4 0).f3), .slice none 0 0]) ?_ 4 _ rfl; (with_reducible repeat (first | refine xA7 ?_ _ | refine xAc ?_ | refine xA6 ?_ _)); refine xA1 (cs := #[.string ((xAd l0_4 0).f0), .string ((xAd l0_4 0).f1), .int .i64 ((xAd l0_4 0).f2), .int .i64 0, .slice none 0 0]) ?_ 3 _ rfl; (with_reducible repeat (first | refine xA7 ?_ _ | refine xAc ?_ | refine xA6 ?_ _)); refine xA1 (cs := #[.string ((xAd l0_4 0).f0), .string ((xAd l0_4 0).f1), .int .i64 0, .int .i64 0, .slice none 0 0]) ?_ 2 _ rfl; (with_reducible repeat (first | refine xA7 ?_ _ | refine xAc ?_ | refine xA6 ?_ _)); refine xA1 (cs := #[.string ((xAd l0_4 0).f0), .string (⟨#[]⟩ : ByteArray), .int .i64 0, .int .i64 0, .slice none 0 0]) ?_ 1 _ rfl; (with_reducible repeat (first | refine xA7 ?_ _ | refine xAc ?_ | refine xA6 ?_ _)); refine xA1 (cs := #[.string (⟨#[]⟩ : ByteArray), .string (⟨#[]⟩ : ByteArray), .int .i64 0, .int .i64 0, .slice none 0 0]) ?_ 0 _ rfl; (with_reducible repeat (first | refine xA7 ?_ _ | refine xAc ?_ | refine xA6 ?_ _)); exact BK173.out⟩, ⟨by repeat (first | (with_reducible first | exact HB.out | apply xA2 | apply xA0 | apply xA3 | refine xAa ?_ GE169.out | refine xAa ?_ GE173.out) | exact HB.out)⟩⟩
          case rest =>
           clear HC27
           try clear c1
           try clear p1
           try clear q1
           try clear hx1
           try clear qi1
           try clear c2
           try clear p2
           try clear c3
           try clear c5
           try clear c9
           try clear c9b0
           try clear c9b1
           try clear c10
           try clear c11
           try clear c11b0
           try clear c11b1
           try clear c11b2
           try clear c15
           try clear c15b0
           try clear c15b1
           try clear c16
           try clear c16b0
           try clear c16b1
           try clear c16b2
           try clear c17
           try clear c17b0
           try clear c17b1
           try clear p17
           try clear q17
           try clear hx17
           try clear qi17
           try clear c22
           try clear c22b0
           try clear c22b1
           try clear c25
           try clear c26
           try clear c26b0
           try clear c26b1
           try clear c30
           try clear c33
           try clear c33b0
           try clear c33b1
           try clear hcz13_0 hcz13_1 hcz13_2 hcz13_3 hcz13_4
           try clear hcz14_0 hcz14_1 hcz14_2 hcz14_3 hcz14_4
           try clear hcz18_0 hcz18_1 hcz18_2 hcz18_3 hcz18_4
           try clear hcz19_0 hcz19_1 hcz19_2 hcz19_3 hcz19_4
           try clear hcz20_0 hcz20_1 hcz20_2 hcz20_3 hcz20_4
           try clear hcz23_0 hcz23_1 hcz23_2 hcz23_3 hcz23_4
           try clear hcz24_0 hcz24_1 hcz24_2 hcz24_3 hcz24_4
           try clear hcz28_0 hcz28_1 hcz28_2 hcz28_3 hcz28_4
           try clear hcz31_0 hcz31_1 hcz31_2 hcz31_3 hcz31_4
           try clear hcz32_0 hcz32_1 hcz32_2 hcz32_3 hcz32_4
           try clear hcz6_0 hcz6_1 hcz6_2 hcz6_3 hcz6_4
           try clear hcz8_0 hcz8_1 hcz8_2 hcz8_3 hcz8_4
           try clear hfz13_0 hfz13_1 hfz13_2 hfz13_3 hfz13_4
           try clear hfz14_0 hfz14_1 hfz14_2 hfz14_3 hfz14_4
           try clear hfz18_0 hfz18_1 hfz18_2 hfz18_3 hfz18_4
           try clear hfz19_0 hfz19_1 hfz19_2 hfz19_3 hfz19_4
           try clear hfz20_0 hfz20_1 hfz20_2 hfz20_3 hfz20_4
           try clear hfz23_0 hfz23_1 hfz23_2 hfz23_3 hfz23_4
           try clear hfz24_0 hfz24_1 hfz24_2 hfz24_3 hfz24_4
           try clear hfz28_0 hfz28_1 hfz28_2 hfz28_3 hfz28_4
           try clear hfz31_0 hfz31_1 hfz31_2 hfz31_3 hfz31_4
           try clear hfz32_0 hfz32_1 hfz32_2 hfz32_3 hfz32_4
           try clear hfz6_0 hfz6_1 hfz6_2 hfz6_3 hfz6_4
           try clear hfz8_0 hfz8_1 hfz8_2 hfz8_3 hfz8_4
           try clear hx172_0 hx172_1 hx172_2 hx172_3 hx172_4
           try clear p172
           try clear p2
           try clear q172
           obtain ⟨kq, x53_26, rfl, HA, HJ26, BK169, BK173, HB⟩ := hcut
           cases kq with
           | zero => exact absurd HA.out (by simp [xAp.j2])
           | succ kj26 =>
            have H := HA.out
            clear HA
            simp only [xAp.j2] at H
            by_cases c34 : x53_26 = true
            ·subst c34
             have H1 : (if ((xAd l0_4 0).f0).toList = ([104, 101, 120] : List UInt8) then (if ((xAd l0_4 0).f2) = 0 then (if (((xAd l0_4 0).f4).length : Int) = 0 then ((xEo.f kj26 ((xAd l0_4 0).f1)).bind fun t174 => (some t174)) else (some false)) else (some false)) else (some false)) = some r := by rw [if_pos rfl] at H; exact H
             clear H
             have H := H1
             clear H1
             by_cases c35 : ((xAd l0_4 0).f0).toList = ([104, 101, 120] : List UInt8)
             ·rw [if_pos c35] at H
              have c35b0 : (((xAd l0_4 0).f0).toList == ([104, 101, 120] : List UInt8)) = true := beq_iff_eq.mpr c35
              have c35b1 : (((xAd l0_4 0).f0).toList != ([104, 101, 120] : List UInt8)) = false := bne_eq_false_iff_eq.mpr c35
              clear c35
              by_cases c36 : ((xAd l0_4 0).f2) = 0
              ·rw [if_pos c36] at H
               have c36b0 : (((xAd l0_4 0).f2) == 0) = true := beq_iff_eq.mpr c36
               have c36b1 : (((xAd l0_4 0).f2) != 0) = false := bne_eq_false_iff_eq.mpr c36
               clear c36
               by_cases c37 : (((xAd l0_4 0).f4).length : Int) = 0
               ·rw [if_pos c37] at H
                have c37b0 : ((((xAd l0_4 0).f4).length : Int) == 0) = true := beq_iff_eq.mpr c37
                have c37b1 : ((((xAd l0_4 0).f4).length : Int) != 0) = false := bne_eq_false_iff_eq.mpr c37
                clear c37
                replace H := Option.bind_eq_some_iff.mp H
                obtain ⟨t174, A380, H⟩ := H
                replace H : (some t174) = some r := H
                have A38 := Aside0.mk A380
                clear A380
                obtain rfl := Option.some.inj H
                have hnb39 := NB173_169.out
                have hnc39 := NB169_173.out
                obtain ⟨hcz40_0, hcz40_1, hcz40_2, hcz40_3, hcz40_4, hfz40_0, hfz40_1, hfz40_2, hfz40_3, hfz40_4⟩ := ex5 BK173.out
                go_wp2_with (first | (go_at_call 53; (with_reducible refine (xEo.calls kj26 ((xAd l0_4 0).f1) t174 _ A38.out).mono ?_); rintro e w41 ⟨rfl, hb⟩; have n0_ := Aside0.mk (xAx (g := gb169) (o := .cells #[.string a0_0, .string a0_1, .int .i64 a0_2, .int .i64 a0_3, .slice (some ad172) l0_4.length c0_4] 25 (0, 0)) (by (with_reducible repeat (first | refine xA7 ?_ _ | refine xAc ?_ | refine xA6 ?_ _)); exact BK169.out) hb); have n1_ := Aside0.mk (xAx (g := gb173) (o := .cells #[.string ((xAd l0_4 0).f0), .string ((xAd l0_4 0).f1), .int .i64 ((xAd l0_4 0).f2), .int .i64 ((xAd l0_4 0).f3), .slice A172_4 ((xAd l0_4 0).f4).length c172_4] 25 (0, 0)) (by (with_reducible repeat (first | refine xA7 ?_ _ | refine xAc ?_ | refine xA6 ?_ _)); exact BK173.out) hb); have n2_ := Aside0.mk (xAz (by repeat (first | (with_reducible first | exact HB.out | apply xA2 | apply xA0 | apply xA3 | refine xAa ?_ GE169.out | refine xAa ?_ GE173.out) | exact HB.out)) hb); clear BK169; clear BK173; clear HB; have BK169 := n0_; have BK173 := n1_; have HB := n2_; clear n0_ n1_ n2_; (try clear hb); (try clear hb2); (try clear hk); (try clear hi)))
                go_ret
                exact ⟨by first | rfl | (simp <;> rfl) | (simp [*] <;> rfl), by repeat (first | (with_reducible first | exact HB.out | apply xA2 | apply xA0 | apply xA3 | refine xAa ?_ GE169.out | refine xAa ?_ GE173.out) | exact HB.out)⟩
               ·rw [if_neg c37] at H
                have c37b0 : ((((xAd l0_4 0).f4).length : Int) == 0) = false := beq_eq_false_iff_ne.mpr c37
                have c37b1 : ((((xAd l0_4 0).f4).length : Int) != 0) = true := bne_iff_ne.mpr c37
                have c37b2 : ¬ (((xAd l0_4 0).f4) = []) := fun h_ => c37 (by rw [h_]; rfl)
                obtain rfl := Option.some.inj H
                have hnb42 := NB173_169.out
                have hnc42 := NB169_173.out
                obtain ⟨hcz43_0, hcz43_1, hcz43_2, hcz43_3, hcz43_4, hfz43_0, hfz43_1, hfz43_2, hfz43_3, hfz43_4⟩ := ex5 BK173.out
                go_wp2
                go_ret
                exact ⟨by first | rfl | (simp <;> rfl) | (simp [*] <;> rfl), by repeat (first | (with_reducible first | exact HB.out | apply xA2 | apply xA0 | apply xA3 | refine xAa ?_ GE169.out | refine xAa ?_ GE173.out) | exact HB.out)⟩
              ·rw [if_neg c36] at H
               have c36b0 : (((xAd l0_4 0).f2) == 0) = false := beq_eq_false_iff_ne.mpr c36
               have c36b1 : (((xAd l0_4 0).f2) != 0) = true := bne_iff_ne.mpr c36
               obtain rfl := Option.some.inj H
               have hnb44 := NB173_169.out
               have hnc44 := NB169_173.out
               obtain ⟨hcz45_0, hcz45_1, hcz45_2, hcz45_3, hcz45_4, hfz45_0, hfz45_1, hfz45_2, hfz45_3, hfz45_4⟩ := ex5 BK173.out
               go_wp2
               go_ret
               exact ⟨by first | rfl | (simp <;> rfl) | (simp [*] <;> rfl), by repeat (first | (with_reducible first | exact HB.out | apply xA2 | apply xA0 | apply xA3 | refine xAa ?_ GE169.out | refine xAa ?_ GE173.out) | exact HB.out)⟩
             ·rw [if_neg c35] at H
              have c35b0 : (((xAd l0_4 0).f0).toList == ([104, 101, 120] : List UInt8)) = false := beq_eq_false_iff_ne.mpr c35
              have c35b1 : (((xAd l0_4 0).f0).toList != ([104, 101, 120] : List UInt8)) = true := bne_iff_ne.mpr c35
              obtain rfl := Option.some.inj H
              have hnb46 := NB173_169.out
              have hnc46 := NB169_173.out
              obtain ⟨hcz47_0, hcz47_1, hcz47_2, hcz47_3, hcz47_4, hfz47_0, hfz47_1, hfz47_2, hfz47_3, hfz47_4⟩ := ex5 BK173.out
              go_wp2
              go_ret
              exact ⟨by first | rfl | (simp <;> rfl) | (simp [*] <;> rfl), by repeat (first | (with_reducible first | exact HB.out | apply xA2 | apply xA0 | apply xA3 | refine xAa ?_ GE169.out | refine xAa ?_ GE173.out) | exact HB.out)⟩
            ·replace c34 := Bool.eq_false_iff.mpr c34
             subst c34
             have H1 : (if a0_0.toList = ([118, 111, 108, 117, 109, 101] : List UInt8) then ((xAl.f kj26 ((xAd l0_4 0).f0) ((xAd l0_4 0).f1) ((xAd l0_4 0).f2) ((xAd l0_4 0).f3) ((xAd l0_4 0).f4) 1).bind fun t175 => (some t175)) else (some false)) = some r := by rw [if_neg (show ¬ (false = true) by decide)] at H; exact H
             clear H
             have H := H1
             clear H1
             by_cases c48 : a0_0.toList = ([118, 111, 108, 117, 109, 101] : List UInt8)
             ·rw [if_pos c48] at H
              have c48b0 : (a0_0.toList == ([118, 111, 108, 117, 109, 101] : List UInt8)) = true := beq_iff_eq.mpr c48
              have c48b1 : (a0_0.toList != ([118, 111, 108, 117, 109, 101] : List UInt8)) = false := bne_eq_false_iff_eq.mpr c48
              clear c48
              replace H := Option.bind_eq_some_iff.mp H
              obtain ⟨t175, A490, H⟩ := H
              replace H : (some t175) = some r := H
              have A49 := Aside0.mk A490
              clear A490
              obtain rfl := Option.some.inj H
              have hnb50 := NB169_173.out
              have hnc50 := NB173_169.out
              obtain ⟨hcz51_0, hcz51_1, hcz51_2, hcz51_3, hcz51_4, hfz51_0, hfz51_1, hfz51_2, hfz51_3, hfz51_4⟩ := ex5 BK169.out
              obtain ⟨hcz52_0, hcz52_1, hcz52_2, hcz52_3, hcz52_4, hfz52_0, hfz52_1, hfz52_2, hfz52_3, hfz52_4⟩ := ex5 BK173.out
              go_wp2_with (first | (go_at_call 54; (with_reducible refine (xAl.calls kj26 ((xAd l0_4 0).f0) ((xAd l0_4 0).f1) ((xAd l0_4 0).f2) ((xAd l0_4 0).f3) _ _ ((xAd l0_4 0).f4) 1 t175 _ ?side1 ?side2 A49.out m_ (by first | (with_reducible exact hmA_.out) | exact xCa hmA_.out (by repeat (first | (with_reducible first | exact HB.out | apply xA2 | apply xA0 | apply xA3 | refine xAa ?_ GE169.out | refine xAa ?_ GE173.out) | exact HB.out)) | (repeat (first | exact hmA_.out | refine xC3 ?_ | refine mlen_drew ?_)))).mono ?_); (case side1 => repeat (first | exact (Kd.C_below HR172_4.out HB.out) | (with_reducible refine Kd.C_alloc ?_ _) | (with_reducible refine Kd.C_drewN ?_ _) | (with_reducible refine Kd.C_drew ?_))); (case side2 => exact HC172_4.out); rintro e w53 ⟨rfl, hb⟩; have n0_ := Aside0.mk (xAx (g := gb169) (o := .cells #[.string a0_0, .string a0_1, .int .i64 a0_2, .int .i64 a0_3, .slice (some ad172) l0_4.length c0_4] 25 (0, 0)) (by (with_reducible repeat (first | refine xA7 ?_ _ | refine xAc ?_ | refine xA6 ?_ _)); exact BK169.out) hb); have n1_ := Aside0.mk (xAx (g := gb173) (o := .cells #[.string ((xAd l0_4 0).f0), .string ((xAd l0_4 0).f1), .int .i64 ((xAd l0_4 0).f2), .int .i64 ((xAd l0_4 0).f3), .slice A172_4 ((xAd l0_4 0).f4).length c172_4] 25 (0, 0)) (by (with_reducible repeat (first | refine xA7 ?_ _ | refine xAc ?_ | refine xA6 ?_ _)); exact BK173.out) hb); have n2_ := Aside0.mk (xAz (by repeat (first | (with_reducible first | exact HB.out | apply xA2 | apply xA0 | apply xA3 | refine xAa ?_ GE169.out | refine xAa ?_ GE173.out) | exact HB.out)) hb); clear BK169; clear BK173; clear HB; have BK169 := n0_; have BK173 := n1_; have HB := n2_; clear n0_ n1_ n2_; (try clear hb); (try clear hb2); (try clear hk); (try clear hi)))
              go_ret
              exact ⟨by first | rfl | (simp <;> rfl) | (simp [*] <;> rfl), by repeat (first | (with_reducible first | exact HB.out | apply xA2 | apply xA0 | apply xA3 | refine xAa ?_ GE169.out | refine xAa ?_ GE173.out) | exact HB.out)⟩
             ·rw [if_neg c48] at H
              have c48b0 : (a0_0.toList == ([118, 111, 108, 117, 109, 101] : List UInt8)) = false := beq_eq_false_iff_ne.mpr c48
              have c48b1 : (a0_0.toList != ([118, 111, 108, 117, 109, 101] : List UInt8)) = true := bne_iff_ne.mpr c48
              obtain rfl := Option.some.inj H
              have hnb54 := NB169_173.out
              have hnc54 := NB173_169.out
              obtain ⟨hcz55_0, hcz55_1, hcz55_2, hcz55_3, hcz55_4, hfz55_0, hfz55_1, hfz55_2, hfz55_3, hfz55_4⟩ := ex5 BK169.out
              go_wp2
              go_ret
              exact ⟨by first | rfl | (simp <;> rfl) | (simp [*] <;> rfl), by repeat (first | (with_reducible first | exact HB.out | apply xA2 | apply xA0 | apply xA3 | refine xAa ?_ GE169.out | refine xAa ?_ GE173.out) | exact HB.out)⟩
         ·rw [if_neg c26] at H
          exact absurd H (by simp)
 ·replace c3 := Bool.eq_false_iff.mpr c3
  subst c3
  have H1 : (some false) = some r := by rw [if_neg (show ¬ (false = true) by decide)] at H; exact H
  clear H
  have H := H1
  clear H1
  obtain rfl := Option.some.inj H
  go_enter Tryd.func26, Tryd.ntmps26
  go_wp2_with (first | ((with_reducible refine xB0 (N := 1) rfl ?_); (try (refine xCi (by rfl) ?_; dsimp only)); refine xB9 ?hg (N := 1) ?hd (cs := #[.string a0_0, .string a0_1, .int .i64 a0_2, .int .i64 a0_3, .slice A0_4 l0_4.length c0_4]) (t := 25) ?hr ?_; (case hd => rfl); (case hg => rfl); (case hr => first | (go_simp; done) | (go_simp; rfl)); intro gb169 hg w56 hbox hb; have n0_ := Aside0.mk (xAz (by repeat (first | (with_reducible first | exact HB.out | apply xA2 | apply xA0 | apply xA3) | exact HB.out)) hb); have n1_ := Aside0.mk (hbox); have n2_ := Aside0.mk ((by rw [hg]; exact (xBa (by repeat (first | (with_reducible first | exact HB.out | apply xA2 | apply xA0 | apply xA3) | exact HB.out))) : w.heap.size ≤ gb169)); have n3_ := Aside0.mk ((by rw [hg]; exact (xBa (by repeat (first | (with_reducible first | exact HB.out | apply xA2 | apply xA0 | apply xA3) | exact HB.out))) : w.heap.size ≤ gb169)); clear HB; have HB := n0_; have BK169 := n1_; have GW169 := n2_; have GE169 := n3_; clear n0_ n1_ n2_ n3_; clear hb hbox hg; obtain ⟨hcz57_0, hcz57_1, hcz57_2, hcz57_3, hcz57_4, hfz57_0, hfz57_1, hfz57_2, hfz57_3, hfz57_4⟩ := ex5 BK169.out) | ((with_reducible refine xAo (f := 51) rfl ?_); refine xBo (some 6) rfl rfl Tryd.func51 (by kernel_rfl) rfl #[.string a0_1] rfl (by (try simp only [List.map_toArray, List.map_cons, List.map_nil]); first | done | rfl | (simp only [List.length_drop, List.length_take]; rfl)) ?_; (with_reducible refine (xCv.calls k a0_1 false _ A2.out m_ (by first | (with_reducible exact hmA_.out) | exact xCa hmA_.out (by repeat (first | (with_reducible first | exact HB.out | apply xA2 | apply xA0 | apply xA3 | refine xAa ?_ GE169.out | refine xAa ?_ GE173.out) | exact HB.out)) | (repeat (first | exact hmA_.out | refine xC3 ?_ | refine mlen_drew ?_)))).mono ?_); rintro e w58 ⟨rfl, hb⟩; refine ⟨_, rfl, ?_⟩; have n0_ := Aside0.mk (xAx (g := gb169) (o := .cells #[.string a0_0, .string a0_1, .int .i64 a0_2, .int .i64 a0_3, .slice A0_4 l0_4.length c0_4] 25 (0, 0)) (by (with_reducible repeat (first | refine xA7 ?_ _ | refine xAc ?_ | refine xA6 ?_ _)); exact BK169.out) hb); have n1_ := Aside0.mk (xAz (by repeat (first | (with_reducible first | exact HB.out | apply xA2 | apply xA0 | apply xA3 | refine xAa ?_ GE169.out) | exact HB.out)) hb); clear BK169; clear HB; have BK169 := n0_; have HB := n1_; clear n0_ n1_; (try clear hb); (try clear hb2); (try clear hk); (try clear hi)))
  go_ret
  exact ⟨by first | rfl | (simp <;> rfl) | (simp [*] <;> rfl), by repeat (first | (with_reducible first | exact HB.out | apply xA2 | apply xA0 | apply xA3 | refine xAa ?_ GE169.out) | exact HB.out)⟩

end Go.Proofs.YtknbfhhmjbnemaaDoor.P
end
