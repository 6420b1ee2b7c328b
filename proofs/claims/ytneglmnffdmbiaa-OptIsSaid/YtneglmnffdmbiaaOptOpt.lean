import Derived.Test.YtneglmnffdmbiaaOptPh3
import Derived.MapKept
import Derived.RangeFuncBox
import Derived.Laws.EntriesVeiled
namespace Go.Proofs.Ytneglmnffdmbiaa.P
open Go.RowKit Go.Proofs.YtneglmnffdmbiaaW.PrintWords Go.Proofs.YtneglmnffdmbiaaW.PrintLast Go.Proofs.YtneglmnffdmbiaaW.PrintMore
set_option linter.unusedVariables false
set_option linter.unusedSimpArgs false

set_option maxHeartbeats 16000000 in
set_option maxRecDepth 100000 in
theorem optimize_calls (A0 : Option Addr) (c0 : Nat) (L0 : List S34) (root : Int) (ro : Bool) (w : World) (hC : Kd.C k34 w A0 L0.length L0) (hc : L0.length ≤ c0) (ok : PlanOk L0 root) :
    Calls Try.prog 9 #[.agg #[.slice A0 L0.length c0, .int .i64 root, .bool ro]] w fun e w' => ∃ v, e = .returned (.agg #[v, .int .i64 (optR L0 root), .bool ro]) ∧ (∃ A c, v = .slice A (optL L0 root).length c ∧ (optL L0 root).length ≤ c ∧ Kd.C k34 w' A (optL L0 root).length (optL L0 root)) ∧ Below w.heap.size w w' := by
  have hmm := @run_makeMap Try.prog
  have hmf : ∀ (fn : Fn) (first cap : Array Value) (w : World), (Instr.makeFunc fn first cap).run Try.prog w = .ok (.func fn first cap) w := fun _ _ _ _ => rfl
  have OK := Aside0.mk ok
  have HC := Aside0.mk hC
  have N0 := ok.n
  clear ok hC
  go_enter Try.func9, Try.ntmps9
  go_wp2
  have bz : Below w.heap.size w ((((w.alloc (Obj.cells #[Value.slice A0 L0.length c0, Value.int IntKind.i64 root, Value.bool ro] 24)).alloc (Obj.cells #[Value.slice none 0 0, Value.int IntKind.i64 0, Value.bool false] 24)).alloc (Obj.cells #[Value.slice none 0 0, Value.slice none 0 0] 41)).alloc (Obj.cells #[Value.pointer (some { block := w.heap.size + 1 + 1, off := 0 })] 39)) :=
    below_alloc (below_alloc (below_alloc (below_alloc (Below.refl _ _) _) _) _) _
  have y0 := blk_new w (.cells #[Value.slice A0 L0.length c0, Value.int IntKind.i64 root, Value.bool ro] 24 (0, 0))
  have y1 := blk_new (w.alloc (.cells #[Value.slice A0 L0.length c0, Value.int IntKind.i64 root, Value.bool ro] 24 (0, 0))) (Obj.cells #[Value.slice none 0 0, Value.int IntKind.i64 0, Value.bool false] 24 (0, 0))
  have y2 := blk_new ((w.alloc (.cells #[Value.slice A0 L0.length c0, Value.int IntKind.i64 root, Value.bool ro] 24 (0, 0))).alloc (Obj.cells #[Value.slice none 0 0, Value.int IntKind.i64 0, Value.bool false] 24 (0, 0))) (Obj.cells #[Value.slice none 0 0, Value.slice none 0 0] 41 (0, 0))
  have y3 := blk_new (((w.alloc (.cells #[Value.slice A0 L0.length c0, Value.int IntKind.i64 root, Value.bool ro] 24 (0, 0))).alloc (Obj.cells #[Value.slice none 0 0, Value.int IntKind.i64 0, Value.bool false] 24 (0, 0))).alloc (Obj.cells #[Value.slice none 0 0, Value.slice none 0 0] 41 (0, 0))) (Obj.cells #[Value.pointer (some { block := w.heap.size + 1 + 1, off := 0 })] 39 (0, 0))
  replace y0 := blk_alloc (blk_alloc (blk_alloc y0 (Obj.cells #[Value.slice none 0 0, Value.int IntKind.i64 0, Value.bool false] 24 (0, 0))) (Obj.cells #[Value.slice none 0 0, Value.slice none 0 0] 41 (0, 0))) (Obj.cells #[Value.pointer (some { block := w.heap.size + 1 + 1, off := 0 })] 39 (0, 0))
  replace y1 := blk_alloc (blk_alloc y1 (Obj.cells #[Value.slice none 0 0, Value.slice none 0 0] 41 (0, 0))) (Obj.cells #[Value.pointer (some { block := w.heap.size + 1 + 1, off := 0 })] 39 (0, 0))
  replace y2 := blk_alloc y2 (Obj.cells #[Value.pointer (some { block := w.heap.size + 1 + 1, off := 0 })] 39 (0, 0))
  rw [World.size_alloc] at y1
  rw [World.size_alloc, World.size_alloc] at y2
  rw [World.size_alloc, World.size_alloc, World.size_alloc] at y3
  generalize (((w.alloc (Obj.cells #[Value.slice A0 L0.length c0, Value.int IntKind.i64 root, Value.bool ro] 24)).alloc (Obj.cells #[Value.slice none 0 0, Value.int IntKind.i64 0, Value.bool false] 24)).alloc (Obj.cells #[Value.slice none 0 0, Value.slice none 0 0] 41)).alloc (Obj.cells #[Value.pointer (some { block := w.heap.size + 1 + 1, off := 0 })] 39) = W0 at *
  obtain ⟨rb, hrb⟩ : ∃ rb, rb = w.heap.size + 1 := ⟨_, rfl⟩
  obtain ⟨o, ho⟩ : ∃ o, o = w.heap.size + 1 + 1 := ⟨_, rfl⟩
  obtain ⟨ov, hov⟩ : ∃ ov, ov = w.heap.size + 1 + 1 + 1 := ⟨_, rfl⟩
  rw [← hov] at y3
  rw [← ho] at y3 y2
  rw [← hrb] at y1
  rw [← hov, ← ho, ← hrb]
  have FR := Aside0.mk (show Fr w W0 o rb ov A0 L0.length c0 root ro from ⟨y0, y1, y3, by omega⟩)
  have OS := Aside0.mk (show OptS w o W0 [] [] (.slice none 0 0) (.slice none 0 0) from ⟨y2, OwnRow.none_ _ _ _ _ _, own_nil _ _ _ _, StepsW.nil _ _, fun p hp => absurd hp (by simp), fun p hp => absurd hp (by simp), bz⟩)
  have HO := Aside0.mk (show w.heap.size ≤ o by omega)
  clear y0 y1 y2 y3 bz hrb ho hov
  go_loopg [20] (L0.length + 1) (fun kx v20 wr => ∃ (i : Nat) (ps : List (S34 × Lie)) (P : List Int) (sv pv : Value), i ≤ L0.length ∧ L0.length - i + 1 ≤ kx ∧ v20 = .int .i64 i ∧ Aside0 (Fr w wr o rb ov A0 L0.length c0 root ro) ∧ Aside0 (OptS w o wr ps P sv pv) ∧ Aside0 (opt1 (L0.take i) = (ps.map Prod.fst, P)))
  case atStart => exact ⟨0, [], [], _, _, Nat.zero_le _, by omega, rfl, FR, OS, ⟨rfl⟩⟩
  case round =>
    clear FR OS
    obtain ⟨i, ps, P, sv, pv, hi, hg, rfl, FF, OO, EE⟩ := hrel
    by_cases hlt : i < L0.length
    · have hd : decide ((i : Int) < (L0.length : Int)) = true := decide_eq_true (by omega)
      have q3 : (0 : Int) ≤ (i : Int) := by omega
      obtain ⟨ad, A3, c3, A4, c4, A8, c8, A9, c9, rfl, f0, f1, f2, f3, f4, f5, f6, f7, f8, f9, l3, g3, l4, g4, l8, g8, l9, g9⟩ := at_T34 HC.out (i : Int) q3 (by omega)
      have hok := OK.out.add i hlt
      have hsn := opt1_snoc L0 i hlt
      generalize rd_T34 L0 (i : Int) = t at *
      have HB := OO.out.bel
      replace f0 := (HB.cell (World.block_lt_of_cell? w _ f0)).trans f0
      replace f1 := (HB.cell (World.block_lt_of_cell? w _ f1)).trans f1
      replace f2 := (HB.cell (World.block_lt_of_cell? w _ f2)).trans f2
      replace f3 := (HB.cell (World.block_lt_of_cell? w _ f3)).trans f3
      replace f4 := (HB.cell (World.block_lt_of_cell? w _ f4)).trans f4
      replace f5 := (HB.cell (World.block_lt_of_cell? w _ f5)).trans f5
      replace f6 := (HB.cell (World.block_lt_of_cell? w _ f6)).trans f6
      replace f7 := (HB.cell (World.block_lt_of_cell? w _ f7)).trans f7
      replace f8 := (HB.cell (World.block_lt_of_cell? w _ f8)).trans f8
      replace f9 := (HB.cell (World.block_lt_of_cell? w _ f9)).trans f9
      rw [Int.toNat_natCast] at f0 f1 f2 f3 f4 f5 f6 f7 f8 f9
      have ba := below_alloc (Below.refl _ wr) (.cells #[.int .i64 t.f0, .int .i64 t.f1, .int .i64 t.f2, .slice A3 t.f3.length c3, .slice A4 t.f4.length c4, .int .i64 t.f5, .int .i64 t.f6, .int .i64 t.f7, .slice A8 t.f8.length c8, .slice A9 t.f9.length c9] 34 (0, 0))
      have hob := blk_new wr (.cells #[.int .i64 t.f0, .int .i64 t.f1, .int .i64 t.f2, .slice A3 t.f3.length c3, .slice A4 t.f4.length c4, .int .i64 t.f5, .int .i64 t.f6, .int .i64 t.f7, .slice A8 t.f8.length c8, .slice A9 t.f9.length c9] 34 (0, 0))
      have hlen := opt1_len (L0.take i)
      rw [List.length_take, Nat.min_eq_left hi, EE.out] at hlen
      have hps : ps.length = i := by rw [List.length_map] at hlen; exact hlen.1
      rw [EE.out] at hok hsn
      have hPl := hlen.2
      simp only at hPl
      have HCA := Aside0.mk (add_step (OO.out.below ba) HO.out t A3 c3 A4 c4 A8 c8 A9 c9 g3 l3 g4 l4 g8 l8 g9 l9 (by omega) (by omega) hok)
      have HFB := Aside0.mk (FF.out.below ba)
      have xov : (wr.alloc (.cells #[.int .i64 t.f0, .int .i64 t.f1, .int .i64 t.f2, .slice A3 t.f3.length c3, .slice A4 t.f4.length c4, .int .i64 t.f5, .int .i64 t.f6, .int .i64 t.f7, .slice A8 t.f8.length c8, .slice A9 t.f9.length c9] 34 (0, 0))).cell? ⟨ov, 0, none⟩ = some (.pointer (some ⟨o, 0, none⟩)) := (blk_cell HFB.out.b 0).trans rfl
      have HSN := Aside0.mk hsn
      clear hok hsn hPl g3 l3 g4 l4 g8 l8 g9 l9 hlen hps ba hob HB
      go_wp2_with (go_at_call 14; (with_reducible refine HCA.out.mono ?_); rintro e w3 ⟨rfl, sv1, pv1, r1, hos, hch⟩; have HOS := Aside0.mk hos; have HCH := Aside0.mk hch; clear hos hch)
      go_roundg (L0.length - (i + 1) + 1)
      case rel => exact ⟨i + 1, _, _, _, _, by omega, by omega, by go_num, ⟨HFB.out.keep HCH.out⟩, HOS, ⟨by rw [HSN.out, List.map_append]; rfl⟩⟩
      case measure => omega
    · have hd : decide ((i : Int) < (L0.length : Int)) = false := decide_eq_false (by omega)
      obtain rfl : i = L0.length := by omega
      rw [List.take_length] at EE
      obtain ⟨W3, hW3⟩ : ∃ W3, W3 = wr := ⟨_, rfl⟩
      subst hW3
      have hl := opt1_len L0
      rw [EE.out, List.length_map] at hl
      have hl1 : ps.length = L0.length := hl.1
      have hl2 : P.length = L0.length := hl.2
      obtain ⟨Ap, cp, epv⟩ := own_slice OO.out.pl
      subst epv
      have p0 := OK.out.r0
      have p1 := OK.out.r1
      have q0 : (0 ≤ root) = True := eq_true p0
      have q1 : (root < (P.length : Int)) = True := eq_true (by omega)
      have q2 : (root < (L0.length : Int)) = True := eq_true p1
      obtain ⟨adp, eap, y0⟩ := Kd.at_int ((Kd.R_reads' (Kd.R_of_own (ok := fun _ => True) (h1 := fun _ => rfl) OO.out.pl (fun _ _ => trivial))).2.2) root p0 (by omega)
      subst eap
      have xo : W3.cell? ⟨o, 1, none⟩ = some (.slice (some adp) P.length cp) := (blk_cell OO.out.at_ 1).trans rfl
      have xov : W3.cell? ⟨ov, 0, none⟩ = some (.pointer (some ⟨o, 0, none⟩)) := (blk_cell FF.out.b 0).trans rfl
      have xp : W3.cell? ⟨w.heap.size, 1, none⟩ = some (.int .i64 root) := (blk_cell FF.out.p 1).trans rfl
      go_wp2
      go_region
      have HFR := Aside0.mk (FF.out.below (below_drew (Below.refl W3.heap.size W3)))
      have HOS := Aside0.mk (OO.out.below (below_drew (Below.refl W3.heap.size W3)))
      clear y0 xo xov xp FF OO hd hg hlt
      generalize W3.drew = W4 at *
      obtain ⟨As, cs, esv, hcs, hCs⟩ := HOS.out.st.C (fun p hp => (HOS.out.key p hp).below HOS.out.bel) HOS.out.cs
      subst esv
      have r0 := OK.out.p0
      have r1 := OK.out.p1
      have hdn := OK.out.down
      have hw4 := OK.out.l4
      have hw3 := OK.out.l3
      have hV : optV L0 root = liveV (ps.map Prod.fst) (rd P root) := by unfold optV; rw [EE.out]
      rw [EE.out] at r0 r1 hdn hw4 hw3
      simp only at r0 r1 hdn hw4 hw3
      have hL : optL L0 root = optG (ps.map Prod.fst) (optV L0 root) := by unfold optL; rw [EE.out]
      have hR : optR L0 root = cntI (optV L0 root) (rd P root) := by unfold optR; rw [EE.out]
      have HEL := Aside0.mk hL
      have HER := Aside0.mk hR
      have HEV := Aside0.mk hV
      have hwk := walk_calls o ov (W4.heap.size + 1) (W4.heap.size + 1 + 1) As cs (ps.map Prod.fst) (.slice (some adp) P.length cp) W4 ⟨by rw [List.length_map]; exact HOS.out.at_⟩ (by rw [List.length_map]; exact hCs) HFR.out.b hdn (by rw [List.length_map]; omega) hw4 hw3 (rd P root).toNat (rd P root) rfl r0 (by rw [List.length_map]; omega) (fun _ => false)
      have HWK := Aside0.mk hwk
      clear hL hR hV hwk hCs hdn hw4 hw3
      generalize rd P root = r at *
      have bm := bmap_made W4 ps.length
      have bx : Below W4.heap.size W4 (((W4.alloc (.map #[] 0)).alloc (.cells #[.map (some W4.heap.size)] 43 (0, 0))).alloc (.cells #[(.func (.func 15) #[] #[.pointer (some ⟨W4.heap.size + 1, 0, none⟩), .pointer (some ⟨ov, 0, none⟩), .pointer (some ⟨W4.heap.size + 1 + 1, 0, none⟩)])] 44 (0, 0))) := below_alloc (below_alloc (below_alloc (Below.refl _ _) _) _) _
      have z1 := blk_alloc (blk_new (W4.alloc (.map #[] 0)) (.cells #[.map (some W4.heap.size)] 43 (0, 0))) (.cells #[(.func (.func 15) #[] #[.pointer (some ⟨W4.heap.size + 1, 0, none⟩), .pointer (some ⟨ov, 0, none⟩), .pointer (some ⟨W4.heap.size + 1 + 1, 0, none⟩)])] 44 (0, 0))
      have z2 := blk_new ((W4.alloc (.map #[] 0)).alloc (.cells #[.map (some W4.heap.size)] 43 (0, 0))) (.cells #[(.func (.func 15) #[] #[.pointer (some ⟨W4.heap.size + 1, 0, none⟩), .pointer (some ⟨ov, 0, none⟩), .pointer (some ⟨W4.heap.size + 1 + 1, 0, none⟩)])] 44 (0, 0))
      replace bm := (bm.kept (World.grownBy_alloc _ (.cells #[.map (some W4.heap.size)] 43 (0, 0)) none) (by simp)).kept (World.grownBy_alloc _ (.cells #[(.func (.func 15) #[] #[.pointer (some ⟨W4.heap.size + 1, 0, none⟩), .pointer (some ⟨ov, 0, none⟩), .pointer (some ⟨W4.heap.size + 1 + 1, 0, none⟩)])] 44 (0, 0)) none) (by simp)
      rw [World.size_alloc] at z1
      rw [World.size_alloc, World.size_alloc] at z2
      have hbb := HWK.out (((W4.alloc (.map #[] 0)).alloc (.cells #[.map (some W4.heap.size)] 43 (0, 0))).alloc (.cells #[(.func (.func 15) #[] #[.pointer (some ⟨W4.heap.size + 1, 0, none⟩), .pointer (some ⟨ov, 0, none⟩), .pointer (some ⟨W4.heap.size + 1 + 1, 0, none⟩)])] 44 (0, 0))) bx (by rw [List.length_map]; exact ⟨bm, z1, z2⟩) (fun k _ hk => by cases hk)
      have HBB := Aside0.mk hbb
      have HZ := Aside0.mk (show (((W4.alloc (.map #[] 0)).alloc (.cells #[.map (some W4.heap.size)] 43 (0, 0))).alloc (.cells #[(.func (.func 15) #[] #[.pointer (some ⟨W4.heap.size + 1, 0, none⟩), .pointer (some ⟨ov, 0, none⟩), .pointer (some ⟨W4.heap.size + 1 + 1, 0, none⟩)])] 44 (0, 0))).heap.size = W4.heap.size + 3 by simp)
      clear bm bx z1 z2 hbb
      have HDN := Aside0.mk (show Down (ps.map Prod.fst) from by have := OK.out.down; rw [EE.out] at this; exact this)
      go_wp2_with (go_at_call 15; (with_reducible refine HBB.out.mono ?_); rintro e w5 ⟨rfl, hb5, V, hw5, hk5⟩; have HW5 := Aside0.mk hw5; have hVV := (hk5.all HDN.out r0 (by rw [List.length_map]; omega)).trans HEV.out.symm; have HF5 := Aside0.mk (HFR.out.below hb5); have HO5 := Aside0.mk (HOS.out.below hb5); have xp2 : w5.cell? ⟨w.heap.size, 2, none⟩ = some (.bool ro) := (blk_cell HF5.out.p 2).trans rfl; have b6 : Below w5.heap.size w5 ((w5.alloc (.cells #[.slice none 0 0, .int .i64 0, .bool ro] 24 (0, 0))).alloc (.map #[] 0)) := below_alloc (below_alloc (Below.refl _ _) _) _; have HF6 := Aside0.mk (HF5.out.below b6); have HO6 := Aside0.mk (HO5.out.below b6); have xov6 : ((w5.alloc (.cells #[.slice none 0 0, .int .i64 0, .bool ro] 24 (0, 0))).alloc (.map #[] 0)).cell? ⟨ov, 0, none⟩ = some (.pointer (some ⟨o, 0, none⟩)) := (blk_cell HF6.out.b 0).trans rfl; have xo6 : ((w5.alloc (.cells #[.slice none 0 0, .int .i64 0, .bool ro] 24 (0, 0))).alloc (.map #[] 0)).cell? ⟨o, 0, none⟩ = some (.slice As ps.length cs) := (blk_cell HO6.out.at_ 0).trans rfl; have HW6 := Aside0.mk (WkW.alloc (WkW.alloc hw5 (.cells #[.slice none 0 0, .int .i64 0, .bool ro] 24 (0, 0))) (.map #[] 0)); have HN6 := Aside0.mk (imap_made (w5.alloc (.cells #[.slice none 0 0, .int .i64 0, .bool ro] 24 (0, 0)))); have HB6 := Aside0.mk (blk_alloc (blk_new w5 (.cells #[.slice none 0 0, .int .i64 0, .bool ro] 24 (0, 0))) (.map #[] 0)); have HL5 := Aside0.mk (show w5.heap.size ≥ W4.heap.size from hb5.size); clear hb5 hw5 hk5 b6)
      have hd5 := HL5.out
      have hd4 := HO5.out.bel.size
      have hrl := blk_lt HF5.out.r
      have hrn : rb ≠ w5.heap.size ∧ w.heap.size ≤ rb := by have := HF5.out.d; omega
      rw [World.size_alloc] at HN6
      generalize ((w5.alloc (.cells #[.slice none 0 0, .int .i64 0, .bool ro] 24 (0, 0))).alloc (.map #[] 0)) = W6 at *
      obtain ⟨fv, hfv⟩ : ∃ fv, fv = W4.heap.size + 1 + 1 := ⟨_, rfl⟩
      obtain ⟨lv, hlv⟩ : ∃ lv, lv = W4.heap.size + 1 := ⟨_, rfl⟩
      obtain ⟨mb, hmb⟩ : ∃ mb, mb = W4.heap.size := ⟨_, rfl⟩
      obtain ⟨nb, hnb⟩ : ∃ nb, nb = w5.heap.size + 1 := ⟨_, rfl⟩
      obtain ⟨ob, hob⟩ : ∃ ob, ob = w5.heap.size := ⟨_, rfl⟩
      rw [← hfv, ← hlv, ← hmb, List.length_map] at HW6
      rw [← hnb] at HN6
      rw [← hob] at HB6
      rw [← hfv, ← hlv, ← hmb, ← hnb, ← hob]
      have PH0 := Aside0.mk (show Ph3 w V ps.length lv ov fv mb ob nb rb As cs ro W6 (Mst V ps 0) (outs V ps 0) (.slice none 0 0) 0 (fun _ => 0) from
        ⟨by rw [Mst_zero]; exact HO6.out.cs, by rw [Mst_zero]; exact HO6.out.st, OwnRow.none_ _ _ _ _ _, ne_nil _, HB6.out, HN6.out, HW6.out, HF6.out.r, HO6.out.bel, by omega⟩)
      have hdd : w.heap.size ≤ ob ∧ w.heap.size ≤ nb := by omega
      have KEY := Aside0.mk HO6.out.key
      have hrV : V r = true := by rw [hVV, HEV.out]; exact (liveV_iff _ _ _).2 (.refl _)
      have hVL : V = liveV (ps.map Prod.fst) r := hVV.trans HEV.out
      rw [← hVV] at HEL HER
      have HVL := Aside0.mk hVL
      have HRV := Aside0.mk hrV
      clear hVL hrV hVV HEV HW6 HN6 HB6 HF6 HO6 HF5 HO5 HL5 HW5 xov6 xo6 xp2 hfv hlv hmb hnb hob hrn hrl hd4 hd5 HZ HBB HWK HOS HFR HO
      have HL1 := Aside0.mk (show ps.length ≤ 1000 by omega)
      clear hl1 hl2
      go_loopg [50] (ps.length + 1) (fun kx v50 wr => ∃ (i : Nat) (outv : Value) (Nf : Int → Int), i ≤ ps.length ∧ ps.length - i + 1 ≤ kx ∧ v50 = .int .i64 i ∧ Aside0 (Ph3 w V ps.length lv ov fv mb ob nb rb As cs ro wr (Mst V ps i) (outs V ps i) outv i Nf) ∧ Aside0 (∀ k : Int, 0 ≤ k → k < i → V k = true → Nf k = cntI V k))
      case atStart => exact ⟨0, _, _, Nat.zero_le _, by omega, rfl, PH0, ⟨fun k h0 h1 => by omega⟩⟩
      case round =>
        clear PH0
        obtain ⟨i, outv, Nf, hi, hg, rfl, PP, NN⟩ := hrel
        by_cases hlt : i < ps.length
        · have hd : decide ((i : Int) < (ps.length : Int)) = true := decide_eq_true (by omega)
          have q3 : (0 : Int) ≤ (i : Int) := by omega
          have hl3 := HL1.out
          obtain ⟨pr, hp⟩ : ∃ pr, ps[i]? = some pr := ⟨_, List.getElem?_eq_getElem hlt⟩
          have hM := Mst_here V ps i pr hp
          have hky := (KEY.out pr (List.mem_of_getElem? hp))
          obtain ⟨t, r⟩ := pr
          obtain ⟨adx, cx, ex, f0, f1, f2, f3, f4, f5, f6, f7, f8, f9⟩ := cells_at PP.out.fc (i : Int) q3 (t, r) (by rw [Int.toNat_natCast]; exact hM)
          injection ex with ex1 ex2 ex3
          subst ex1
          have hrow := PP.out.rowAt hM
          obtain ⟨A4, c4, e4⟩ := own_slice hrow.k
          have hev : ∃ A3 c3, r.ev = .slice A3 t.f3.length c3 := by
            by_cases h3 : t.f0 = 3
            · exact own_slice (hrow.e h3)
            · obtain ⟨hn, A3, c3, e3⟩ := hrow.n h3
              rw [hn]
              exact ⟨A3, c3, e3⟩
          obtain ⟨A3, c3, e3⟩ := hev
          obtain ⟨A8, c8, A9, c9, e8, _, _, e9, _, _⟩ := hky
          obtain ⟨evr, kvr, v8r, v9r⟩ := r
          simp only at e3 e4 e8 e9 f0 f1 f2 f3 f4 f5 f6 f7 f8 f9
          subst e3 e4 e8 e9
          rw [Int.toNat_natCast] at f0 f1 f2 f3 f4 f5 f6 f7 f8 f9
          have HA := Aside0.mk (PP.out.alloc (.cells #[.int .i64 t.f0, .int .i64 t.f1, .int .i64 t.f2, .slice A3 t.f3.length c3, .slice A4 t.f4.length c4, .int .i64 t.f5, .int .i64 t.f6, .int .i64 t.f7, .slice A8 t.f8.length c8, .slice A9 t.f9.length c9] 34 (0, 0)))
          have HBX := Aside0.mk (blk_new wr (.cells #[.int .i64 t.f0, .int .i64 t.f1, .int .i64 t.f2, .slice A3 t.f3.length c3, .slice A4 t.f4.length c4, .int .i64 t.f5, .int .i64 t.f6, .int .i64 t.f7, .slice A8 t.f8.length c8, .slice A9 t.f9.length c9] 34 (0, 0)))
          have xl : (wr.alloc (.cells #[.int .i64 t.f0, .int .i64 t.f1, .int .i64 t.f2, .slice A3 t.f3.length c3, .slice A4 t.f4.length c4, .int .i64 t.f5, .int .i64 t.f6, .int .i64 t.f7, .slice A8 t.f8.length c8, .slice A9 t.f9.length c9] 34 (0, 0))).cell? ⟨lv, 0, none⟩ = some (.map (some mb)) := (blk_cell HA.out.wk.bl 0).trans rfl
          have hlk := HA.out.wk.map.lookup (i : Int) (wf_small (by omega) (by omega))
          have HP := Aside0.mk hp
          have HM := Aside0.mk hM
          clear hp hM hrow ex2 ex3 hl3
          cases hv : V (i : Int) with
          | false =>
            rw [hv] at hlk
            have HV := Aside0.mk hv
            clear hv
            go_wp2
            go_roundg (ps.length - (i + 1) + 1)
            case rel => exact ⟨i + 1, outv, Nf, by omega, by omega, by go_num, ⟨by rw [Mst_dead V ps i HV.out, outs_dead V ps i HV.out]; exact HA.out.mono (by omega)⟩, ⟨fun k h0 h1 h2 => NN.out k h0 (by by_cases hk : k = (i : Int); (rw [hk, HV.out] at h2; cases h2); omega) h2⟩⟩
            case measure => omega
          | true =>
            rw [hv] at hlk
            have HV := Aside0.mk hv
            clear hv
            have hl3 := HL1.out
            have hcn := cnt_le V i
            obtain ⟨Ao, co, eo, _⟩ := PP.out.out.slice_
            rw [outs_len V ps i] at eo
            subst eo
            obtain ⟨w1, hst, hm1, hg1⟩ := HA.out.nm.store (i : Int) (cnt V i : Int) (wf_small (by omega) (by omega)) (wf_small (by omega) (by omega)) (by omega)
            have xo0 : (wr.alloc (.cells #[.int .i64 t.f0, .int .i64 t.f1, .int .i64 t.f2, .slice A3 t.f3.length c3, .slice A4 t.f4.length c4, .int .i64 t.f5, .int .i64 t.f6, .int .i64 t.f7, .slice A8 t.f8.length c8, .slice A9 t.f9.length c9] 34 (0, 0))).cell? ⟨ob, 0, none⟩ = some (.slice Ao (cnt V i) co) := (blk_cell HA.out.fob 0).trans rfl
            have P1 := Aside0.mk (HA.out.num hm1 hg1)
            have HB1 := Aside0.mk ((hg1.block wr.heap.size (by simp) (fun e => by have := PP.out.nm.lt; injection e with e; omega)).trans HBX.out)
            have y4 : w1.cell? ⟨wr.heap.size, 4, none⟩ = some (.slice A4 t.f4.length c4) := (blk_cell HB1.out 4).trans rfl
            obtain ⟨Nf2, hNf2⟩ : ∃ f : Int → Int, f = fun k : Int => if k = (i : Int) then (cnt V i : Int) else Nf k := ⟨_, rfl⟩
            have NN2 := Aside0.mk (show ∀ k : Int, 0 ≤ k → k < (i + 1 : Nat) → V k = true → Nf2 k = cntI V k from fun k h0 h1 h2 => by
              rw [hNf2]
              by_cases hk : k = (i : Int)
              · subst hk
                simp only [if_true]
                unfold cntI
                rw [Int.toNat_natCast]
              · simp only [if_neg hk]
                exact NN.out k h0 (by omega) h2)
            rw [← hNf2] at P1
            clear hNf2
            have HT := Aside0.mk (show rd_T34 (ps.map Prod.fst) (i : Int) = t by
              have e_ := HP.out
              simp [rd_T34, List.getD, List.getElem?_map, e_])
            have hw4 : t.f4.length ≤ 100000 := by
              have h_ := OK.out.l4 (i : Int)
              rw [EE.out] at h_
              simp only at h_
              rw [HT.out] at h_
              exact h_
            have hw3 : t.f3.length ≤ 10000000000 := by
              have h_ := OK.out.l3 (i : Int)
              rw [EE.out] at h_
              simp only at h_
              rw [HT.out] at h_
              exact h_
            clear hm1 hg1 hl3
            go_wp2
            obtain ⟨tb, htb⟩ : ∃ tb, tb = wr.heap.size := ⟨_, rfl⟩
            rw [← htb] at HB1 ⊢
            clear htb HA HBX PP NN f0 f1 f2 f3 f4 f5 f6 f7 f8 f9 xl hlk xo0 hst y4 hd
            have HPI := Aside0.mk (show ∀ q : S34 × Lie, ((Mst V ps i).set i q)[i]? = some q from fun q => set_at _ q HM.out)
            go_loopg [67] (t.f4.length + 1) (fun kx v67 wr => ∃ k : Nat, k ≤ t.f4.length ∧ t.f4.length - k + 1 ≤ kx ∧ v67 = .int .i64 k ∧ Aside0 (Ph3 w V ps.length lv ov fv mb ob nb rb (some adx) cs ro wr ((Mst V ps i).set i ({ t with f4 := partL (cntI V) t.f4 k }, ⟨.slice A3 t.f3.length c3, .slice A4 t.f4.length c4, .slice A8 t.f8.length c8, .slice A9 t.f9.length c9⟩)) (outs V ps i) (.slice Ao (cnt V i) co) (i + 1) Nf2) ∧ Aside0 (wr.heap[tb]? = some (.cells #[.int .i64 t.f0, .int .i64 t.f1, .int .i64 t.f2, .slice A3 t.f3.length c3, .slice A4 t.f4.length c4, .int .i64 t.f5, .int .i64 t.f6, .int .i64 t.f7, .slice A8 t.f8.length c8, .slice A9 t.f9.length c9] 34 (0, 0))))
            case atStart => exact ⟨0, Nat.zero_le _, by omega, rfl, ⟨by rw [partL_zero, set_same HM.out]; exact P1.out⟩, HB1⟩
            case round =>
              clear P1 HB1
              obtain ⟨k, hk, hgk, rfl, PK, TK⟩ := hrel
              have y4 : wr.cell? ⟨tb, 4, none⟩ = some (.slice A4 t.f4.length c4) := (blk_cell TK.out 4).trans rfl
              by_cases hkl : k < t.f4.length
              · have hd : decide ((k : Int) < (t.f4.length : Int)) = true := decide_eq_true (by omega)
                have qk : (0 : Int) ≤ (k : Int) := by omega
                have hrow := PK.out.rowAt (HPI.out _)
                have hown : wr.ownsRow w.heap.size 3 1 (.slice A4 t.f4.length c4) t.f4.length (nums .i64 (partL (cntI V) t.f4 k)) := by
                  have h_ := hrow.k
                  simp only [partL_len] at h_
                  exact h_
                obtain ⟨g, cap, hform, _, _⟩ := hown.form (by omega)
                injection hform with hAk _ hck
                subst hAk hck
                obtain ⟨ki, kf⟩ := own_at hown (k : Int) qk (by omega)
                have e_ : rd (partL (cntI V) t.f4 k) (k : Int) = rd t.f4 (k : Int) := by
                  unfold rd
                  rw [Int.toNat_natCast]
                  exact partL_at _ _ _ _
                rw [e_, Int.toNat_natCast] at ki
                rw [Int.toNat_natCast] at kf
                have hch : Chd (ps.map Prod.fst) (i : Int) (rd t.f4 (k : Int)) := .inl ⟨k, by rw [HT.out]; exact hkl, by rw [HT.out]⟩
                have hdn := HDN.out (i : Int) q3 (by rw [List.length_map]; omega) _ hch
                have hvc : V (rd t.f4 (k : Int)) = true := by
                  have h_ := HV.out
                  rw [HVL.out] at h_ ⊢
                  exact liveV_clo h_ hch
                have hNc := NN2.out _ hdn.1 (by omega) hvc
                have hlk := PK.out.nm.lookup (rd t.f4 (k : Int)) (wf_small hdn.1 (by have := HL1.out; omega))
                have hlk2 := PK.out.drew.nm.lookup (rd t.f4 (k : Int)) (wf_small hdn.1 (by have := HL1.out; omega))
                rw [hNc] at hlk hlk2
                have HS := Aside0.mk ((PK.out.setk (HPI.out _) rfl k (cntI V (rd t.f4 (k : Int)))).drew)
                have HTB := Aside0.mk (show (wr.setCell ⟨g, k, none⟩ (.int .i64 (cntI V (rd t.f4 (k : Int))))).heap[tb]? = _ from (Below.heap_setCell wr ⟨g, k, none⟩ _ tb (by
                  obtain ⟨c1, h1⟩ := own_typed hown g rfl
                  exact cells_ne TK.out h1 (by decide))).trans TK.out)
                have HPS := Aside0.mk (show (partL (cntI V) t.f4 k).set k (cntI V (rd t.f4 (k : Int))) = partL (cntI V) t.f4 (k + 1) from by
                  have h_ := partL_set (cntI V) t.f4 k hkl 0
                  unfold rd
                  rw [Int.toNat_natCast]
                  exact h_)
                clear hrow hown hch hdn hvc hNc e_
                generalize rd t.f4 (k : Int) = kk at *
                go_wp2
                go_region
                go_wp2
                go_roundg (t.f4.length - (k + 1) + 1)
                case rel => exact ⟨k + 1, by omega, by omega, by go_num, ⟨by rw [← HPS.out, ← List.set_set]; exact HS.out⟩, ⟨HTB.out⟩⟩
                case measure => omega
              · have hd : decide ((k : Int) < (t.f4.length : Int)) = false := decide_eq_false (by omega)
                obtain rfl : k = t.f4.length := by omega
                obtain ⟨W5, hW5⟩ : ∃ W5, W5 = wr := ⟨_, rfl⟩
                subst hW5
                have y3 : W5.cell? ⟨tb, 3, none⟩ = some (.slice A3 t.f3.length c3) := (blk_cell TK.out 3).trans rfl
                rw [partL_all] at PK
                go_wp2
                go_loopg [85] (t.f3.length + 1) (fun kx v85 wr => ∃ k : Nat, k ≤ t.f3.length ∧ t.f3.length - k + 1 ≤ kx ∧ v85 = .int .i64 k ∧ Aside0 (Ph3 w V ps.length lv ov fv mb ob nb rb (some adx) cs ro wr ((Mst V ps i).set i ({ t with f4 := t.f4.map (cntI V), f3 := partL (renE V) t.f3 k }, ⟨.slice A3 t.f3.length c3, .slice A4 t.f4.length c4, .slice A8 t.f8.length c8, .slice A9 t.f9.length c9⟩)) (outs V ps i) (.slice Ao (cnt V i) co) (i + 1) Nf2) ∧ Aside0 (wr.heap[tb]? = some (.cells #[.int .i64 t.f0, .int .i64 t.f1, .int .i64 t.f2, .slice A3 t.f3.length c3, .slice A4 t.f4.length c4, .int .i64 t.f5, .int .i64 t.f6, .int .i64 t.f7, .slice A8 t.f8.length c8, .slice A9 t.f9.length c9] 34 (0, 0))))
                case atStart => exact ⟨0, Nat.zero_le _, by omega, rfl, ⟨by rw [partL_zero]; exact PK.out⟩, TK⟩
                case round =>
                  clear PK TK y4 y3 hd hgk hk
                  obtain ⟨k, hk, hgk, rfl, PK, TK⟩ := hrel
                  have y3 : wr.cell? ⟨tb, 3, none⟩ = some (.slice A3 t.f3.length c3) := (blk_cell TK.out 3).trans rfl
                  by_cases hkl : k < t.f3.length
                  · have hd : decide ((k : Int) < (t.f3.length : Int)) = true := decide_eq_true (by omega)
                    have qk : (0 : Int) ≤ (k : Int) := by omega
                    have hrow := PK.out.rowAt (HPI.out _)
                    have h3 : t.f0 = 3 := by
                      by_cases h3 : t.f0 = 3
                      · exact h3
                      · have h_ := congrArg List.length (hrow.n h3).1
                        simp only [partL_len, List.length_nil] at h_
                        omega
                    have hown : wr.ownsRow w.heap.size 36 4 (.slice A3 t.f3.length c3) t.f3.length (ec (partL (renE V) t.f3 k)) := by
                      have h_ := hrow.e h3
                      simp only [partL_len] at h_
                      exact h_
                    obtain ⟨g, cap, hform, _, _⟩ := hown.form (by omega)
                    injection hform with hAk _ hck
                    subst hAk hck
                    have e_ : rd_T36 (partL (renE V) t.f3 k) (k : Int) = rd_T36 t.f3 (k : Int) := by
                      unfold rd_T36
                      rw [Int.toNat_natCast]
                      exact partL_at _ _ _ _
                    have ki : wr.cell? ⟨g, k * 4 + 2, none⟩ = some (.int .i64 (rd_T36 t.f3 (k : Int)).f2) := by
                      have h_ := hown.cells (g := g) rfl (k * 4 + 2) _ (ec_at2 (partL (renE V) t.f3 k) k (by rw [partL_len]; exact hkl))
                      rw [e_] at h_
                      simpa [Addr.add] using h_
                    have kf : wr.frozen? ⟨g, k * 4 + 2, none⟩ = false := by
                      obtain ⟨c1, h1⟩ := own_typed hown g rfl
                      exact blk_frozen h1 _
                    have hch : Chd (ps.map Prod.fst) (i : Int) (rd_T36 t.f3 (k : Int)).f2 := .inr ⟨k, by rw [HT.out]; exact hkl, by rw [HT.out]⟩
                    have hdn := HDN.out (i : Int) q3 (by rw [List.length_map]; omega) _ hch
                    have hvc : V (rd_T36 t.f3 (k : Int)).f2 = true := by
                      have h_ := HV.out
                      rw [HVL.out] at h_ ⊢
                      exact liveV_clo h_ hch
                    have hNc := NN2.out _ hdn.1 (by omega) hvc
                    have hlk := PK.out.nm.lookup (rd_T36 t.f3 (k : Int)).f2 (wf_small hdn.1 (by have := HL1.out; omega))
                    have hlk2 := PK.out.drew.nm.lookup (rd_T36 t.f3 (k : Int)).f2 (wf_small hdn.1 (by have := HL1.out; omega))
                    rw [hNc] at hlk hlk2
                    have HS := Aside0.mk ((PK.out.sete (HPI.out _) h3 rfl k (by show k < (partL (renE V) t.f3 k).length; rw [partL_len]; exact hkl) (cntI V (rd_T36 t.f3 (k : Int)).f2)).drew)
                    have HTB := Aside0.mk (show (wr.setCell ⟨g, k * 4 + 2, none⟩ (.int .i64 (cntI V (rd_T36 t.f3 (k : Int)).f2))).heap[tb]? = _ from (Below.heap_setCell wr ⟨g, k * 4 + 2, none⟩ _ tb (by
                      obtain ⟨c1, h1⟩ := own_typed hown g rfl
                      exact cells_ne TK.out h1 (by decide))).trans TK.out)
                    have HPS := Aside0.mk (show (partL (renE V) t.f3 k).set k { rd_T36 (partL (renE V) t.f3 k) (k : Int) with f2 := cntI V (rd_T36 t.f3 (k : Int)).f2 } = partL (renE V) t.f3 (k + 1) from by
                      have h_ := partL_set (renE V) t.f3 k hkl z36
                      rw [e_]
                      unfold rd_T36
                      rw [Int.toNat_natCast]
                      exact h_)
                    clear hrow hown hch hdn hvc hNc e_ h3
                    generalize (rd_T36 t.f3 (k : Int)).f2 = kk at *
                    go_wp2
                    go_region
                    go_wp2
                    go_roundg (t.f3.length - (k + 1) + 1)
                    case rel => exact ⟨k + 1, by omega, by omega, by go_num, ⟨by rw [← HPS.out, ← List.set_set]; exact HS.out⟩, ⟨HTB.out⟩⟩
                    case measure => omega
                  · have hd : decide ((k : Int) < (t.f3.length : Int)) = false := decide_eq_false (by omega)
                    obtain rfl : k = t.f3.length := by omega
                    obtain ⟨W6, hW6⟩ : ∃ W6, W6 = wr := ⟨_, rfl⟩
                    subst hW6
                    have hfin : Ph3 w V ps.length lv ov fv mb ob nb rb (some adx) cs ro W6 (Mst V ps (i + 1)) (outs V ps i) (.slice Ao (cnt V i) co) (i + 1) Nf2 := by
                      have h_ := PK.out
                      rw [partL_all] at h_
                      rw [Mst_live V ps i _ HP.out HV.out]
                      exact h_
                    have xo0 : W6.cell? ⟨ob, 0, none⟩ = some (.slice Ao (cnt V i) co) := (blk_cell hfin.fob 0).trans rfl
                    have g0 : W6.cell? ⟨tb, 0, none⟩ = some (.int .i64 t.f0) := (blk_cell TK.out 0).trans rfl
                    have g1 : W6.cell? ⟨tb, 1, none⟩ = some (.int .i64 t.f1) := (blk_cell TK.out 1).trans rfl
                    have g2 : W6.cell? ⟨tb, 2, none⟩ = some (.int .i64 t.f2) := (blk_cell TK.out 2).trans rfl
                    have g4 : W6.cell? ⟨tb, 4, none⟩ = some (.slice A4 t.f4.length c4) := (blk_cell TK.out 4).trans rfl
                    have g5 : W6.cell? ⟨tb, 5, none⟩ = some (.int .i64 t.f5) := (blk_cell TK.out 5).trans rfl
                    have g6 : W6.cell? ⟨tb, 6, none⟩ = some (.int .i64 t.f6) := (blk_cell TK.out 6).trans rfl
                    have g7 : W6.cell? ⟨tb, 7, none⟩ = some (.int .i64 t.f7) := (blk_cell TK.out 7).trans rfl
                    have g8 : W6.cell? ⟨tb, 8, none⟩ = some (.slice A8 t.f8.length c8) := (blk_cell TK.out 8).trans rfl
                    have g9 : W6.cell? ⟨tb, 9, none⟩ = some (.slice A9 t.f9.length c9) := (blk_cell TK.out 9).trans rfl
                    have HFI := Aside0.mk hfin
                    have hcn2 := cnt_le V i
                    have hl4 := HL1.out
                    clear hfin
                    go_wp2_with ((with_reducible refine gate_builtin (b := .append) (xs := #[.tmp 103, .tmp 105]) rfl ?_); (try (refine gate_guard (by rfl) ?_; dsimp only)); at_builtin; refine OwnRow.append (R := CellsOf) (w0 := w) w.heap.size rfl (.tmp 103) (.tmp 105) 22 34 _ 10 144 rfl Try.underlying22 info34 rfl (by decide) (by decide) (.slice Ao (cnt V i) co) (outs V ps i) (ren V t, ⟨.slice A3 t.f3.length c3, .slice A4 t.f4.length c4, .slice A8 t.f8.length c8, .slice A9 t.f9.length c9⟩) [.int .i64 t.f0, .int .i64 t.f1, .int .i64 t.f2, .slice A3 t.f3.length c3, .slice A4 t.f4.length c4, .int .i64 t.f5, .int .i64 t.f6, .int .i64 t.f7, .slice A8 t.f8.length c8, .slice A9 t.f9.length c9] rfl ?aX ?aP rfl ?a1 ?aO ?aB ?aS ?aL ?_; (case aX => first | rfl | (simp [World.size_alloc, Act.eval]; done)); (case aP => exact rfl); (case a1 => intro u hu; simp at hu; rcases hu with rfl | rfl | rfl | rfl | rfl | rfl | rfl | rfl | rfl | rfl <;> rfl); (case aO => exact HFI.out.out); (case aB => exact HFI.out.bel); (case aS => exact HFI.out.bel.size); (case aL => rw [outs_len]; omega); intro vo1 w1 ho1 hb1 hg1 hat1; obtain ⟨Ao1, co1, eo1, _⟩ := ho1.slice_; rw [List.length_append, List.length_singleton, outs_len] at eo1; subst eo1; have HNX := Aside0.mk (HFI.out.app ho1 hb1 hg1 hat1); have xo1 := blk_grown HFI.out.fob hg1 (HFI.out.out.ne_block HFI.out.fob (by decide)); have xf1 := blk_frozen xo1 0; have xc1 : w1.cell? ⟨ob, 0, none⟩ = some (.slice Ao (cnt V i) co) := (blk_cell xo1 0).trans rfl; clear ho1 hb1 hg1 hat1 xo1)
                    go_roundg (ps.length - (i + 1) + 1)
                    case rel => exact ⟨i + 1, _, Nf2, by omega, by omega, by go_num, ⟨by rw [outs_live V ps i _ HP.out HV.out]; exact HNX.out⟩, NN2⟩
                    case measure => omega
        · have hd : decide ((i : Int) < (ps.length : Int)) = false := decide_eq_false (by omega)
          obtain rfl : i = ps.length := by omega
          obtain ⟨W5, hW5⟩ : ∃ W5, W5 = wr := ⟨_, rfl⟩
          subst hW5
          have hl3 := HL1.out
          have hcn := cnt_le V ps.length
          obtain ⟨Ao, co, eo, _⟩ := PP.out.out.slice_
          subst eo
          have hlk := PP.out.nm.lookup r (wf_small r0 (by omega))
          rw [NN.out r r0 (by omega) HRV.out] at hlk
          have o0 : W5.cell? ⟨ob, 0, none⟩ = some (.slice Ao (outs V ps ps.length).length co) := (blk_cell PP.out.fob 0).trans rfl
          have o1 : W5.cell? ⟨ob, 1, none⟩ = some (.int .i64 0) := (blk_cell PP.out.fob 1).trans rfl
          have o2 : W5.cell? ⟨ob, 2, none⟩ = some (.bool ro) := (blk_cell PP.out.fob 2).trans rfl
          have r0_ : W5.cell? ⟨rb, 0, none⟩ = some (.slice none 0 0) := (blk_cell PP.out.frb 0).trans rfl
          have r1_ : W5.cell? ⟨rb, 1, none⟩ = some (.int .i64 0) := (blk_cell PP.out.frb 1).trans rfl
          have r2_ : W5.cell? ⟨rb, 2, none⟩ = some (.bool false) := (blk_cell PP.out.frb 2).trans rfl
          have of0 := blk_frozen PP.out.fob 1
          have rf0 := blk_frozen PP.out.frb 0
          have rf1 := blk_frozen PP.out.frb 1
          have rf2 := blk_frozen PP.out.frb 2
          have hrob : (rb == ob) = false := by
            have := PP.out.d
            simp
            omega
          have hobr : (ob == rb) = false := by
            have := PP.out.d
            simp
            omega
          have HBR := Aside0.mk (show ob ≠ rb from PP.out.d.2.2.2.2)
          have HRB := Aside0.mk (show rb ≠ ob from fun e => PP.out.d.2.2.2.2 e.symm)
          have nbr := HBR.out
          have nrb := HRB.out
          go_wp2
          have hlp := hl.1
          have s_ := blk_far PP.out.frb (p := ⟨ob, 1, none⟩) HRB.out (.int .i64 (cntI V r))
          have s0 := blk_set s_ 0 (.slice Ao (outs V ps L0.length).length co)
          have s1 := blk_set s0 1 (.int .i64 (cntI V r))
          have s2 := blk_set s1 2 (.bool ro)
          have hb := PP.out.d
          have HBF := below_set (g := rb) (j := 2) (v := .bool ro) (below_set (g := rb) (j := 1) (v := .int .i64 (cntI V r)) (below_set (g := rb) (j := 0) (v := .slice Ao (outs V ps L0.length).length co) (below_set (g := ob) (j := 1) (v := .int .i64 (cntI V r)) PP.out.bel hb.1) hb.2.2.1) hb.2.2.1) hb.2.2.1
          have HST := StepsW.set24 (j := 2) (StepsW.set24 (j := 1) (StepsW.set24 (j := 0) (StepsW.set24 (j := 1) PP.out.st PP.out.fob (.int .i64 (cntI V r))) s_ (.slice Ao (outs V ps L0.length).length co)) s0 (.int .i64 (cntI V r))) s1 (.bool ro)
          have HOW := OwnRow.set_ (OwnRow.set_ (OwnRow.set_ (OwnRow.set_ PP.out.out PP.out.fob (by decide) 1 (.int .i64 (cntI V r))) s_ (by decide) 0 (.slice Ao (outs V ps L0.length).length co)) s0 (by decide) 1 (.int .i64 (cntI V r))) s1 (by decide) 2 (.bool ro)
          have HKY : ∀ p ∈ outs V ps ps.length, KeyAt _ p.1 p.2 := fun p hp => (outs_key (fun q hq => KEY.out q hq) p hp).below HBF
          obtain ⟨Af, cf, ef, lf, HC1⟩ := HST.C_of Mst_out HKY HOW
          rw [outs_fst] at HC1
          have hlen : (optL L0 root).length = (outs V ps ps.length).length := by
            rw [HEL.out, ← outs_fst, List.length_map]
          rw [← HEL.out, ← hlen] at HC1
          rw [← hlen] at lf
          rw [HER.out]
          refine bodyPost_ret (results_cell_row rfl _ _ rb 24 #[.slice Ao (outs V ps L0.length).length co, .int .i64 (cntI V r), .bool ro] (0, 0) _ rfl (by simpa using s2) Try.underlying24 rfl (by kernel_rfl)) rfl ?_
          refine ⟨_, rfl, ⟨Af, cf, ?_, lf, HC1⟩, HBF⟩
          rw [hlen, ← ef, ← hlp]
end Go.Proofs.Ytneglmnffdmbiaa.P
