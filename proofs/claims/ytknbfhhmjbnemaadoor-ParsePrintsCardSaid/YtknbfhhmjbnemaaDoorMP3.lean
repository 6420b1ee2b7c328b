/- Proved here, for this seat's claims: what the functions that the laws reach compute: the texts of this work, one behind the other, laid by a program of this session. Conditions: none beside the statement's own. -/
import Derived.Test.YtknbfhhmjbnemaaDoorMP1
import Derived.Test.YtknbfhhmjbnemaaDoorMP2
set_option linter.unusedVariables false
set_option linter.unusedSimpArgs false
section
namespace Go.Proofs.YtknbfhhmjbnemaaDoor.P
open Go.RowKit Go.Proofs.YtknbfhhmjbnemaaDoorW.PrintWords Go.Proofs.YtknbfhhmjbnemaaDoorW.PrintLast Go.Proofs.YtknbfhhmjbnemaaDoorW.PrintMore
set_option maxHeartbeats 16000000 in
set_option maxRecDepth 100000 in
theorem wr_use (k : Nat) (ih : WrOk k) (w0 w : World) (b : Nat) (n : S25) (A : Option Addr) (c : Nat) (l t : List UInt8) (hI : WrI w0 w b n A c l) (hn2 : -9223372036854775808 ≤ n.f2 ∧ n.f2 ≤ 9223372036854775807) (hl4 : n.f4.length ≤ 1000000) (ho : n.f0.toList = ([117, 115, 101] : List UInt8)) (h : t = n.f1.data.toList) (hlen : l.length + t.length ≤ 1000000000) :
  Calls Tryd.prog 22 #[.pointer (some ⟨b, 0, none⟩), xBg n A c] w (WrP w0.heap.size b (l ++ t) w) := by
 have e0 : (n.f0.toList == ([117, 115, 101] : List UInt8)) = true := by rw [ho]; rfl
 have e1 : (n.f0.toList == ([110, 97, 109, 101] : List UInt8)) = false := by rw [ho]; rfl
 have e2 : (n.f0.toList == ([110, 117, 109] : List UInt8)) = false := by rw [ho]; rfl
 have e3 : (n.f0.toList == ([104, 101, 120] : List UInt8)) = false := by rw [ho]; rfl
 have e4 : (n.f0.toList == ([102, 105, 108, 101] : List UInt8)) = false := by rw [ho]; rfl
 have e5 : (n.f0.toList == ([100, 101, 118, 105, 99, 101] : List UInt8)) = false := by rw [ho]; rfl
 have e6 : (n.f0.toList == ([106, 111, 117, 114, 110, 97, 108] : List UInt8)) = false := by rw [ho]; rfl
 have e7 : (n.f0.toList == ([107, 101, 121] : List UInt8)) = false := by rw [ho]; rfl
 have e8 : (n.f0.toList == ([114, 111, 111, 116] : List UInt8)) = false := by rw [ho]; rfl
 have e9 : (n.f0.toList == ([118, 111, 108, 117, 109, 101] : List UInt8)) = false := by rw [ho]; rfl
 have e10 : (n.f0.toList == ([101, 120, 112, 111, 114, 116] : List UInt8)) = false := by rw [ho]; rfl
 clear ho
 have HI := Aside0.mk hI
 have HS0 := Aside0.mk hI.start
 have HN2 := Aside0.mk hn2
 have HLN := Aside0.mk hlen
 have HIH := Aside0.mk ih
 have HT := Aside0.mk h
 have HL4 := Aside0.mk hl4
 clear hI hn2 hlen ih h hl4
 have hmf : ∀ (fn : Fn) (first cap : Array Value) (w : World), (Instr.makeFunc fn first cap).run Tryd.prog w = .ok (.func fn first cap) w := fun _ _ _ _ => rfl
 have hu25 := Tryd.underlying25
 have hu9 := Tryd.underlying9
 have hu69 := Tryd.underlying69
 have eg : Enters Tryd.prog 50 := enters_of Tryd.func50 (by kernel_rfl) rfl
 unfold Enters at eg
 unfold xBg
 go_enter Tryd.func22, Tryd.ntmps22
 go_upto_region 1 with (fail)
 generalize World.alloc (World.alloc w _) _ = W0 at *
 generalize hq_ : w.heap.size + 1 = q at *
 generalize w.heap.size = p at *
 clear hq_
 have HS := HS0
 clear HS0
 have p0 := (xAb HS.out.pb 0).trans rfl
 obtain ⟨q0, q1, q2, q3, q4⟩ := ey5 HS.out.qb
 go_wp2_with (go_at_call 48; (with_reducible refine (HS.out.str n.f1 (by have h1 := HLN.out; rw [HT.out] at h1; exact h1)).mono ?_); rintro e w1 ⟨rfl, h1⟩; have H1 := Aside0.mk h1; clear h1)
 refine bodyPost_end (results_none rfl _ _ _) rfl ?_
 rw [HT.out]
 exact H1.out.end_
set_option maxHeartbeats 16000000 in
set_option maxRecDepth 100000 in
theorem wr_name (k : Nat) (ih : WrOk k) (w0 w : World) (b : Nat) (n : S25) (A : Option Addr) (c : Nat) (l t : List UInt8) (hI : WrI w0 w b n A c l) (hn2 : -9223372036854775808 ≤ n.f2 ∧ n.f2 ≤ 9223372036854775807) (hl4 : n.f4.length ≤ 1000000) (ho : n.f0.toList = ([110, 97, 109, 101] : List UInt8)) (h : t = n.f1.data.toList) (hlen : l.length + t.length ≤ 1000000000) :
  Calls Tryd.prog 22 #[.pointer (some ⟨b, 0, none⟩), xBg n A c] w (WrP w0.heap.size b (l ++ t) w) := by
 have e0 : (n.f0.toList == ([117, 115, 101] : List UInt8)) = false := by rw [ho]; rfl
 have e1 : (n.f0.toList == ([110, 97, 109, 101] : List UInt8)) = true := by rw [ho]; rfl
 have e2 : (n.f0.toList == ([110, 117, 109] : List UInt8)) = false := by rw [ho]; rfl
 have e3 : (n.f0.toList == ([104, 101, 120] : List UInt8)) = false := by rw [ho]; rfl
 have e4 : (n.f0.toList == ([102, 105, 108, 101] : List UInt8)) = false := by rw [ho]; rfl
 have e5 : (n.f0.toList == ([100, 101, 118, 105, 99, 101] : List UInt8)) = false := by rw [ho]; rfl
 have e6 : (n.f0.toList == ([106, 111, 117, 114, 110, 97, 108] : List UInt8)) = false := by rw [ho]; rfl
 have e7 : (n.f0.toList == ([107, 101, 121] : List UInt8)) = false := by rw [ho]; rfl
 have e8 : (n.f0.toList == ([114, 111, 111, 116] : List UInt8)) = false := by rw [ho]; rfl
 have e9 : (n.f0.toList == ([118, 111, 108, 117, 109, 101] : List UInt8)) = false := by rw [ho]; rfl
 have e10 : (n.f0.toList == ([101, 120, 112, 111, 114, 116] : List UInt8)) = false := by rw [ho]; rfl
 clear ho
 have HI := Aside0.mk hI
 have HS0 := Aside0.mk hI.start
 have HN2 := Aside0.mk hn2
 have HLN := Aside0.mk hlen
 have HIH := Aside0.mk ih
 have HT := Aside0.mk h
 have HL4 := Aside0.mk hl4
 clear hI hn2 hlen ih h hl4
 have hmf : ∀ (fn : Fn) (first cap : Array Value) (w : World), (Instr.makeFunc fn first cap).run Tryd.prog w = .ok (.func fn first cap) w := fun _ _ _ _ => rfl
 have hu25 := Tryd.underlying25
 have hu9 := Tryd.underlying9
 have hu69 := Tryd.underlying69
 have eg : Enters Tryd.prog 50 := enters_of Tryd.func50 (by kernel_rfl) rfl
 unfold Enters at eg
 unfold xBg
 go_enter Tryd.func22, Tryd.ntmps22
 go_upto_region 1 with (fail)
 generalize World.alloc (World.alloc w _) _ = W0 at *
 generalize hq_ : w.heap.size + 1 = q at *
 generalize w.heap.size = p at *
 clear hq_
 have HS := HS0
 clear HS0
 have p0 := (xAb HS.out.pb 0).trans rfl
 obtain ⟨q0, q1, q2, q3, q4⟩ := ey5 HS.out.qb
 go_wp2_with (go_at_call 48; (with_reducible refine (HS.out.str n.f1 (by have h1 := HLN.out; rw [HT.out] at h1; exact h1)).mono ?_); rintro e w1 ⟨rfl, h1⟩; have H1 := Aside0.mk h1; clear h1)
 refine bodyPost_end (results_none rfl _ _ _) rfl ?_
 rw [HT.out]
 exact H1.out.end_
set_option maxHeartbeats 16000000 in
set_option maxRecDepth 100000 in
theorem wr_hex (k : Nat) (ih : WrOk k) (w0 w : World) (b : Nat) (n : S25) (A : Option Addr) (c : Nat) (l t : List UInt8) (hI : WrI w0 w b n A c l) (hn2 : -9223372036854775808 ≤ n.f2 ∧ n.f2 ≤ 9223372036854775807) (hl4 : n.f4.length ≤ 1000000) (ho : n.f0.toList = ([104, 101, 120] : List UInt8)) (h : t = 36 :: n.f1.data.toList) (hlen : l.length + t.length ≤ 1000000000) :
  Calls Tryd.prog 22 #[.pointer (some ⟨b, 0, none⟩), xBg n A c] w (WrP w0.heap.size b (l ++ t) w) := by
 have e0 : (n.f0.toList == ([117, 115, 101] : List UInt8)) = false := by rw [ho]; rfl
 have e1 : (n.f0.toList == ([110, 97, 109, 101] : List UInt8)) = false := by rw [ho]; rfl
 have e2 : (n.f0.toList == ([110, 117, 109] : List UInt8)) = false := by rw [ho]; rfl
 have e3 : (n.f0.toList == ([104, 101, 120] : List UInt8)) = true := by rw [ho]; rfl
 have e4 : (n.f0.toList == ([102, 105, 108, 101] : List UInt8)) = false := by rw [ho]; rfl
 have e5 : (n.f0.toList == ([100, 101, 118, 105, 99, 101] : List UInt8)) = false := by rw [ho]; rfl
 have e6 : (n.f0.toList == ([106, 111, 117, 114, 110, 97, 108] : List UInt8)) = false := by rw [ho]; rfl
 have e7 : (n.f0.toList == ([107, 101, 121] : List UInt8)) = false := by rw [ho]; rfl
 have e8 : (n.f0.toList == ([114, 111, 111, 116] : List UInt8)) = false := by rw [ho]; rfl
 have e9 : (n.f0.toList == ([118, 111, 108, 117, 109, 101] : List UInt8)) = false := by rw [ho]; rfl
 have e10 : (n.f0.toList == ([101, 120, 112, 111, 114, 116] : List UInt8)) = false := by rw [ho]; rfl
 clear ho
 have HI := Aside0.mk hI
 have HS0 := Aside0.mk hI.start
 have HN2 := Aside0.mk hn2
 have HLN := Aside0.mk hlen
 have HIH := Aside0.mk ih
 have HT := Aside0.mk h
 have HL4 := Aside0.mk hl4
 clear hI hn2 hlen ih h hl4
 have hmf : ∀ (fn : Fn) (first cap : Array Value) (w : World), (Instr.makeFunc fn first cap).run Tryd.prog w = .ok (.func fn first cap) w := fun _ _ _ _ => rfl
 have hu25 := Tryd.underlying25
 have hu9 := Tryd.underlying9
 have hu69 := Tryd.underlying69
 have eg : Enters Tryd.prog 50 := enters_of Tryd.func50 (by kernel_rfl) rfl
 unfold Enters at eg
 unfold xBg
 go_enter Tryd.func22, Tryd.ntmps22
 go_upto_region 1 with (fail)
 generalize World.alloc (World.alloc w _) _ = W0 at *
 generalize hq_ : w.heap.size + 1 = q at *
 generalize w.heap.size = p at *
 clear hq_
 have HS := HS0
 clear HS0
 have p0 := (xAb HS.out.pb 0).trans rfl
 obtain ⟨q0, q1, q2, q3, q4⟩ := ey5 HS.out.qb
 have hsz : n.f1.size + 1 ≤ 1000000000 := by have h1 := HLN.out; rw [HT.out] at h1; have h2 : n.f1.size = n.f1.data.toList.length := rfl; simp at h1; omega
 go_wp2_with (go_at_call 48; (with_reducible refine (HS.out.str ((⟨#[36]⟩ : ByteArray) ++ n.f1) (by have h1 := HLN.out; rw [HT.out] at h1; simpa [Nat.add_comm] using h1)).mono ?_); rintro e w1 ⟨rfl, h1⟩; have H1 := Aside0.mk h1; clear h1)
 refine bodyPost_end (results_none rfl _ _ _) rfl ?_
 have h1 := H1.out
 rw [HT.out]
 have h2 : ((⟨#[36]⟩ : ByteArray) ++ n.f1).data.toList = 36 :: n.f1.data.toList := by simp
 rw [h2] at h1
 exact h1.end_
set_option maxHeartbeats 16000000 in
set_option maxRecDepth 100000 in
theorem wr_num (k : Nat) (ih : WrOk k) (w0 w : World) (b : Nat) (n : S25) (A : Option Addr) (c : Nat) (l t : List UInt8) (hI : WrI w0 w b n A c l) (hn2 : -9223372036854775808 ≤ n.f2 ∧ n.f2 ≤ 9223372036854775807) (hl4 : n.f4.length ≤ 1000000) (ho : n.f0.toList = ([110, 117, 109] : List UInt8)) (h : t = Lib.itoa n.f2) (hlen : l.length + t.length ≤ 1000000000) :
  Calls Tryd.prog 22 #[.pointer (some ⟨b, 0, none⟩), xBg n A c] w (WrP w0.heap.size b (l ++ t) w) := by
 have e0 : (n.f0.toList == ([117, 115, 101] : List UInt8)) = false := by rw [ho]; rfl
 have e1 : (n.f0.toList == ([110, 97, 109, 101] : List UInt8)) = false := by rw [ho]; rfl
 have e2 : (n.f0.toList == ([110, 117, 109] : List UInt8)) = true := by rw [ho]; rfl
 have e3 : (n.f0.toList == ([104, 101, 120] : List UInt8)) = false := by rw [ho]; rfl
 have e4 : (n.f0.toList == ([102, 105, 108, 101] : List UInt8)) = false := by rw [ho]; rfl
 have e5 : (n.f0.toList == ([100, 101, 118, 105, 99, 101] : List UInt8)) = false := by rw [ho]; rfl
 have e6 : (n.f0.toList == ([106, 111, 117, 114, 110, 97, 108] : List UInt8)) = false := by rw [ho]; rfl
 have e7 : (n.f0.toList == ([107, 101, 121] : List UInt8)) = false := by rw [ho]; rfl
 have e8 : (n.f0.toList == ([114, 111, 111, 116] : List UInt8)) = false := by rw [ho]; rfl
 have e9 : (n.f0.toList == ([118, 111, 108, 117, 109, 101] : List UInt8)) = false := by rw [ho]; rfl
 have e10 : (n.f0.toList == ([101, 120, 112, 111, 114, 116] : List UInt8)) = false := by rw [ho]; rfl
 clear ho
 have HI := Aside0.mk hI
 have HS0 := Aside0.mk hI.start
 have HN2 := Aside0.mk hn2
 have HLN := Aside0.mk hlen
 have HIH := Aside0.mk ih
 have HT := Aside0.mk h
 have HL4 := Aside0.mk hl4
 clear hI hn2 hlen ih h hl4
 have hmf : ∀ (fn : Fn) (first cap : Array Value) (w : World), (Instr.makeFunc fn first cap).run Tryd.prog w = .ok (.func fn first cap) w := fun _ _ _ _ => rfl
 have hu25 := Tryd.underlying25
 have hu9 := Tryd.underlying9
 have hu69 := Tryd.underlying69
 have eg : Enters Tryd.prog 50 := enters_of Tryd.func50 (by kernel_rfl) rfl
 unfold Enters at eg
 unfold xBg
 go_enter Tryd.func22, Tryd.ntmps22
 go_upto_region 1 with (fail)
 generalize World.alloc (World.alloc w _) _ = W0 at *
 generalize hq_ : w.heap.size + 1 = q at *
 generalize w.heap.size = p at *
 clear hq_
 have HS := HS0
 clear HS0
 have p0 := (xAb HS.out.pb 0).trans rfl
 obtain ⟨q0, q1, q2, q3, q4⟩ := ey5 HS.out.qb
 go_upto_region 6 with (fail)
 clear p0 q0 q1 q2 q3 q4
 have HD := Aside0.mk HS.out.drew
 clear HS
 have p0 := (xAb HD.out.pb 0).trans rfl
 have q2 := (xAb HD.out.qb 2).trans rfl
 refine xDa (n := 5) (S := fun w' => w'.cell? ⟨p, 0, none⟩ = some (.pointer (some ⟨b, 0, none⟩)) ∧ w'.cell? ⟨q, 2, none⟩ = some (.int .i64 n.f2)) (ds := []) #[false, false, false, false, false] (by kernel_rfl) rfl rfl ?hS (fun hHeld => ?_)
 case hS => exact ⟨p0, q2⟩
 generalize World.drew W0 = Wd at *
 refine xBy (i := 1) (N := some 21) (v := ?_) (a' := ?_) #[false, true, false, false, false] rfl rfl (by kernel_rfl) (fun _ _ _ h => h) (Or.inl ⟨by rfl, ?_⟩) ?_ ?_
 rotate_left
 ·intro w'
  go_simp
  with_reducible rfl
 rotate_left
 ·simp only [Act.put, List.setIfInBounds_toArray, List.set_cons_zero, List.set_cons_succ, xB0, xB1]
  rfl
 refine xCr (i := 0) (N := some 20) (v := ?_) (a' := ?_) #[true, true, false, false, false] rfl rfl (by kernel_rfl) (fun _ _ _ h => h) (Or.inl ⟨by rfl, ?_⟩) hHeld ?_ ?_
 rotate_left
 ·rintro w' ⟨s0, s1⟩
  go_simp
  with_reducible rfl
 rotate_left
 ·simp only [Act.put, List.setIfInBounds_toArray, List.set_cons_zero, List.set_cons_succ, xB0, xB1]
  rfl
 refine xCr (i := 2) (N := some 22) (v := ?_) (a' := ?_) #[true, true, true, false, false] rfl rfl (by kernel_rfl) (fun _ _ _ h => h) (Or.inl ⟨by rfl, ?_⟩) hHeld ?_ ?_
 rotate_left
 ·rintro w' ⟨s0, s1⟩
  go_simp
  with_reducible rfl
 rotate_left
 ·simp only [Act.put, List.setIfInBounds_toArray, List.set_cons_zero, List.set_cons_succ, xB0, xB1]
  rfl
 refine one_ (i := 3) (N := some 23) #[true, true, true, true, false] rfl rfl (by kernel_rfl) (by decide) (fun K hK => ?_)
 refine xF6 Tryd.func49 (by kernel_rfl) rfl #[.int .i64 n.f2] (by rfl) rfl rfl (by first | rfl | (simp [Act.eval]; done) | (go_simp; done)) ?_
 refine (xIg _ _ _ _ n A c l w _ w0 HD.out n.f2 HN2.out.1 HN2.out.2 (HI.out.tab _ (HI.out.bel.trans HD.out.fr.1))).mono ?_
 rintro e w1 ⟨rfl, h1⟩
 refine ⟨_, rfl, ?_⟩
 have H1 := Aside0.mk h1
 clear h1 p0 q2
 have p0 := (xAb H1.out.pb 0).trans rfl
 have q2 := (xAb H1.out.qb 2).trans rfl
 try clear hHeld
 refine hK.out _ _ ⟨p0, q2⟩ (fun hHeld => ?_)
 clear hK K
 refine xCm (a' := ?_) ?_ ?_
 rotate_left
 ·show Act.put _ (some 23) _ = _
  simp only [Act.put, List.setIfInBounds_toArray, List.set_cons_zero, List.set_cons_succ, xB0, xB1]
  rfl
 refine one_ (i := 4) (N := some 24) #[true, true, true, true, true] rfl rfl (by kernel_rfl) (by decide) (fun K hK => ?_)
 refine xF6 Tryd.func48 (by kernel_rfl) rfl #[.pointer (some ⟨b, 0, none⟩), .string ⟨(Lib.itoa n.f2).toArray⟩] (by rfl) rfl rfl (by first | rfl | (simp [Act.eval]; done) | (go_simp; done)) ?_
 refine (H1.out.str ⟨(Lib.itoa n.f2).toArray⟩ (by have h1 := HLN.out; rw [HT.out] at h1; simpa using h1)).mono ?_
 rintro e w2 ⟨rfl, h1⟩
 refine ⟨_, rfl, ?_⟩
 have H2 := Aside0.mk h1
 clear h1 p0 q2
 have p0 := (xAb H2.out.pb 0).trans rfl
 have q2 := (xAb H2.out.qb 2).trans rfl
 try clear hHeld
 refine hK.out _ _ ⟨p0, q2⟩ (fun hHeld => ?_)
 clear hK K
 refine xCm (a' := ?_) ?_ ?_
 rotate_left
 ·show Act.put _ (some 24) _ = _
  simp only [Act.put, List.setIfInBounds_toArray, List.set_cons_zero, List.set_cons_succ, xB0, xB1]
  rfl
 refine xEf (by kernel_rfl) ?_
 clear hHeld p0 q2
 go_wp2
 refine bodyPost_end (results_none rfl _ _ _) rfl ?_
 have h1 := H2.out
 rw [HT.out]
 exact h1.end_
set_option maxHeartbeats 16000000 in
set_option maxRecDepth 100000 in
theorem xK4 (k : Nat) (ih : WrOk k) (w0 w : World) (b : Nat) (n : S25) (A : Option Addr) (c : Nat) (l t : List UInt8) (hI : WrI w0 w b n A c l) (hn2 : -9223372036854775808 ≤ n.f2 ∧ n.f2 ≤ 9223372036854775807) (hl4 : n.f4.length ≤ 1000000) (ho : n.f0.toList = ([100, 101, 118, 105, 99, 101] : List UInt8)) (h : t = n.f0.data.toList ++ [32] ++ n.f1.data.toList ++ [32] ++ Lib.itoa n.f2 ++ [59, 10]) (hlen : l.length + t.length ≤ 1000000000) :
  Calls Tryd.prog 22 #[.pointer (some ⟨b, 0, none⟩), xBg n A c] w (WrP w0.heap.size b (l ++ t) w) := by
 have e0 : (n.f0.toList == ([117, 115, 101] : List UInt8)) = false := by rw [ho]; rfl
 have e1 : (n.f0.toList == ([110, 97, 109, 101] : List UInt8)) = false := by rw [ho]; rfl
 have e2 : (n.f0.toList == ([110, 117, 109] : List UInt8)) = false := by rw [ho]; rfl
 have e3 : (n.f0.toList == ([104, 101, 120] : List UInt8)) = false := by rw [ho]; rfl
 have e4 : (n.f0.toList == ([102, 105, 108, 101] : List UInt8)) = false := by rw [ho]; rfl
 have e5 : (n.f0.toList == ([100, 101, 118, 105, 99, 101] : List UInt8)) = true := by rw [ho]; rfl
 have e6 : (n.f0.toList == ([106, 111, 117, 114, 110, 97, 108] : List UInt8)) = false := by rw [ho]; rfl
 have e7 : (n.f0.toList == ([107, 101, 121] : List UInt8)) = false := by rw [ho]; rfl
 have e8 : (n.f0.toList == ([114, 111, 111, 116] : List UInt8)) = false := by rw [ho]; rfl
 have e9 : (n.f0.toList == ([118, 111, 108, 117, 109, 101] : List UInt8)) = false := by rw [ho]; rfl
 have e10 : (n.f0.toList == ([101, 120, 112, 111, 114, 116] : List UInt8)) = false := by rw [ho]; rfl
 clear ho
 have HI := Aside0.mk hI
 have HS0 := Aside0.mk hI.start
 have HN2 := Aside0.mk hn2
 have HLN := Aside0.mk hlen
 have HIH := Aside0.mk ih
 have HT := Aside0.mk h
 have HL4 := Aside0.mk hl4
 clear hI hn2 hlen ih h hl4
 have hmf : ∀ (fn : Fn) (first cap : Array Value) (w : World), (Instr.makeFunc fn first cap).run Tryd.prog w = .ok (.func fn first cap) w := fun _ _ _ _ => rfl
 have hu25 := Tryd.underlying25
 have hu9 := Tryd.underlying9
 have hu69 := Tryd.underlying69
 have eg : Enters Tryd.prog 50 := enters_of Tryd.func50 (by kernel_rfl) rfl
 unfold Enters at eg
 unfold xBg
 go_enter Tryd.func22, Tryd.ntmps22
 go_upto_region 1 with (fail)
 generalize World.alloc (World.alloc w _) _ = W0 at *
 generalize hq_ : w.heap.size + 1 = q at *
 generalize w.heap.size = p at *
 clear hq_
 have HS := HS0
 clear HS0
 have p0 := (xAb HS.out.pb 0).trans rfl
 obtain ⟨q0, q1, q2, q3, q4⟩ := ey5 HS.out.qb
 go_upto_region 28 with (fail)
 clear p0 q0 q1 q2 q3 q4
 have HD := Aside0.mk HS.out.drew
 clear HS
 have q0 := (xAb HD.out.qb 0).trans rfl
 have q1 := (xAb HD.out.qb 1).trans rfl
 have q2 := (xAb HD.out.qb 2).trans rfl
 refine xDa (n := 10) (S := fun w' => w'.cell? ⟨q, 0, none⟩ = some (.string n.f0) ∧ w'.cell? ⟨q, 1, none⟩ = some (.string n.f1) ∧ w'.cell? ⟨q, 2, none⟩ = some (.int .i64 n.f2)) (ds := []) #[false, false, false, false, false, false, false, false, false, false] (by kernel_rfl) rfl rfl ?hS (fun hHeld => ?_)
 case hS => exact ⟨q0, q1, q2⟩
 generalize World.drew W0 = Wd at *
 refine xBy (i := 0) (N := some 76) (v := ?_) (a' := ?_) #[true, false, false, false, false, false, false, false, false, false] rfl rfl (by kernel_rfl) (fun _ _ _ h => h) (Or.inl ⟨by rfl, ?_⟩) ?_ ?_
 rotate_left
 ·intro w'
  go_simp
  with_reducible rfl
 rotate_left
 ·simp only [Act.put, List.setIfInBounds_toArray, List.set_cons_zero, List.set_cons_succ, xB0, xB1]
  rfl
 refine xBy (i := 1) (N := some 77) (v := ?_) (a' := ?_) #[true, true, false, false, false, false, false, false, false, false] rfl rfl (by kernel_rfl) (fun _ _ _ h => h) (Or.inl ⟨by rfl, ?_⟩) ?_ ?_
 rotate_left
 ·intro w'
  go_simp
  with_reducible rfl
 rotate_left
 ·simp only [Act.put, List.setIfInBounds_toArray, List.set_cons_zero, List.set_cons_succ, xB0, xB1]
  rfl
 refine xBy (i := 3) (N := some 79) (v := ?_) (a' := ?_) #[true, true, false, true, false, false, false, false, false, false] rfl rfl (by kernel_rfl) (fun _ _ _ h => h) (Or.inl ⟨by rfl, ?_⟩) ?_ ?_
 rotate_left
 ·intro w'
  go_simp
  with_reducible rfl
 rotate_left
 ·simp only [Act.put, List.setIfInBounds_toArray, List.set_cons_zero, List.set_cons_succ, xB0, xB1]
  rfl
 refine xBy (i := 5) (N := some 81) (v := ?_) (a' := ?_) #[true, true, false, true, false, true, false, false, false, false] rfl rfl (by kernel_rfl) (fun _ _ _ h => h) (Or.inl ⟨by rfl, ?_⟩) ?_ ?_
 rotate_left
 ·intro w'
  go_simp
  with_reducible rfl
 rotate_left
 ·simp only [Act.put, List.setIfInBounds_toArray, List.set_cons_zero, List.set_cons_succ, xB0, xB1]
  rfl
 refine xCr (i := 2) (N := some 78) (v := ?_) (a' := ?_) #[true, true, true, true, false, true, false, false, false, false] rfl rfl (by kernel_rfl) (fun _ _ _ h => h) (Or.inl ⟨by rfl, ?_⟩) hHeld ?_ ?_
 rotate_left
 ·rintro w' ⟨s0, s1, s2⟩
  go_simp
  with_reducible rfl
 rotate_left
 ·simp only [Act.put, List.setIfInBounds_toArray, List.set_cons_zero, List.set_cons_succ, xB0, xB1]
  rfl
 refine xCr (i := 4) (N := some 80) (v := ?_) (a' := ?_) #[true, true, true, true, true, true, false, false, false, false] rfl rfl (by kernel_rfl) (fun _ _ _ h => h) (Or.inl ⟨by rfl, ?_⟩) hHeld ?_ ?_
 rotate_left
 ·rintro w' ⟨s0, s1, s2⟩
  go_simp
  with_reducible rfl
 rotate_left
 ·simp only [Act.put, List.setIfInBounds_toArray, List.set_cons_zero, List.set_cons_succ, xB0, xB1]
  rfl
 refine xCr (i := 6) (N := some 82) (v := ?_) (a' := ?_) #[true, true, true, true, true, true, true, false, false, false] rfl rfl (by kernel_rfl) (fun _ _ _ h => h) (Or.inl ⟨by rfl, ?_⟩) hHeld ?_ ?_
 rotate_left
 ·rintro w' ⟨s0, s1, s2⟩
  go_simp
  with_reducible rfl
 rotate_left
 ·simp only [Act.put, List.setIfInBounds_toArray, List.set_cons_zero, List.set_cons_succ, xB0, xB1]
  rfl
 refine one_ (i := 7) (N := some 83) #[true, true, true, true, true, true, true, true, false, false] rfl rfl (by kernel_rfl) (by decide) (fun K hK => ?_)
 refine xF6 Tryd.func49 (by kernel_rfl) rfl #[.int .i64 n.f2] (by rfl) rfl rfl (by first | rfl | (simp [Act.eval]; done) | (go_simp; done)) ?_
 refine (xIg _ _ _ _ n A c l w _ w0 HD.out n.f2 HN2.out.1 HN2.out.2 (HI.out.tab _ (HI.out.bel.trans HD.out.fr.1))).mono ?_
 rintro e w1 ⟨rfl, h1⟩
 refine ⟨_, rfl, ?_⟩
 have H1 := Aside0.mk h1
 clear h1
 clear q0 q1 q2
 have q0 := (xAb H1.out.qb 0).trans rfl
 have q1 := (xAb H1.out.qb 1).trans rfl
 have q2 := (xAb H1.out.qb 2).trans rfl
 try clear hHeld
 refine hK.out _ _ ⟨q0, q1, q2⟩ (fun hHeld => ?_)
 clear hK K
 refine xCm (a' := ?_) ?_ ?_
 rotate_left
 ·show Act.put _ (some 83) _ = _
  simp only [Act.put, List.setIfInBounds_toArray, List.set_cons_zero, List.set_cons_succ, xB0, xB1]
  rfl
 refine one_ (i := 8) (N := some 84) #[true, true, true, true, true, true, true, true, true, false] rfl rfl (by kernel_rfl) (by decide) (fun K hK => ?_)
 refine value_ (v := .slice (some ⟨w1.heap.size, 0, none⟩) 6 6) (w1 := w1.alloc (.cells #[.string n.f0, .string (⟨#[32]⟩ : ByteArray), .string n.f1, .string (⟨#[32]⟩ : ByteArray), .string ⟨(Lib.itoa n.f2).toArray⟩, .string (⟨#[59, 10]⟩ : ByteArray)] 9 (0, 0))) (by rfl) rfl ?hr ?_
 case hr => first | (go_simp; done) | (go_simp; rfl)
 have H2 := Aside0.mk (H1.out.alloc (.cells #[.string n.f0, .string (⟨#[32]⟩ : ByteArray), .string n.f1, .string (⟨#[32]⟩ : ByteArray), .string ⟨(Lib.itoa n.f2).toArray⟩, .string (⟨#[59, 10]⟩ : ByteArray)] 9 (0, 0)))
 clear q0 q1 q2
 have q0 := (xAb H2.out.qb 0).trans rfl
 have q1 := (xAb H2.out.qb 1).trans rfl
 have q2 := (xAb H2.out.qb 2).trans rfl
 try clear hHeld
 refine hK.out _ _ ⟨q0, q1, q2⟩ (fun hHeld => ?_)
 clear hK K
 refine xCm (a' := ?_) ?_ ?_
 rotate_left
 ·show Act.put _ (some 84) _ = _
  simp only [Act.put, List.setIfInBounds_toArray, List.set_cons_zero, List.set_cons_succ, xB0, xB1]
  rfl
 refine one_ (i := 9) (N := some 85) #[true, true, true, true, true, true, true, true, true, true] rfl rfl (by kernel_rfl) (by decide) (fun K hK => ?_)
 have HP := Aside0.mk (H1.out.put [n.f0, (⟨#[32]⟩ : ByteArray), n.f1, (⟨#[32]⟩ : ByteArray), ⟨(Lib.itoa n.f2).toArray⟩, (⟨#[59, 10]⟩ : ByteArray)] #[.string n.f0, .string (⟨#[32]⟩ : ByteArray), .string n.f1, .string (⟨#[32]⟩ : ByteArray), .string ⟨(Lib.itoa n.f2).toArray⟩, .string (⟨#[59, 10]⟩ : ByteArray)] 6 rfl rfl (by have h1 := HLN.out; rw [HT.out] at h1; simp [catB] at h1 ⊢; omega) (by decide))
 refine goesV_ Tryd.func50 (by kernel_rfl) rfl #[.slice (some ⟨w1.heap.size, 0, none⟩) 6 6, .pointer (some ⟨p, 0, none⟩)] (by rfl) rfl rfl (by first | rfl | (simp [Act.eval]; done) | (go_simp; done)) (by first | rfl | (simp [Act.eval]; done) | (go_simp; done)) ?_
 refine HP.out.mono ?_
 rintro e w3 ⟨rfl, h3⟩
 refine ⟨_, rfl, ?_⟩
 have H3 := Aside0.mk h3
 clear h3
 clear q0 q1 q2
 have q0 := (xAb H3.out.qb 0).trans rfl
 have q1 := (xAb H3.out.qb 1).trans rfl
 have q2 := (xAb H3.out.qb 2).trans rfl
 try clear hHeld
 refine hK.out _ _ ⟨q0, q1, q2⟩ (fun hHeld => ?_)
 clear hK K
 refine xCm (a' := ?_) ?_ ?_
 rotate_left
 ·show Act.put _ (some 85) _ = _
  simp only [Act.put, List.setIfInBounds_toArray, List.set_cons_zero, List.set_cons_succ, xB0, xB1]
  rfl
 refine xEf (by kernel_rfl) ?_
 clear hHeld q0 q1 q2
 go_wp2
 refine bodyPost_end (results_none rfl _ _ _) rfl ?_
 have h1 := H3.out.end_
 rw [HT.out]
 simpa [catB] using h1
set_option maxHeartbeats 16000000 in
set_option maxRecDepth 100000 in
theorem xJ7 (k : Nat) (ih : WrOk k) (w0 w : World) (b : Nat) (n : S25) (A : Option Addr) (c : Nat) (l t : List UInt8) (hI : WrI w0 w b n A c l) (hn2 : -9223372036854775808 ≤ n.f2 ∧ n.f2 ≤ 9223372036854775807) (hl4 : n.f4.length ≤ 1000000) (ho : n.f0.toList = ([106, 111, 117, 114, 110, 97, 108] : List UInt8)) (h : t = n.f0.data.toList ++ [32] ++ n.f1.data.toList ++ [32] ++ Lib.itoa n.f2 ++ [59, 10]) (hlen : l.length + t.length ≤ 1000000000) :
  Calls Tryd.prog 22 #[.pointer (some ⟨b, 0, none⟩), xBg n A c] w (WrP w0.heap.size b (l ++ t) w) := by
 have e0 : (n.f0.toList == ([117, 115, 101] : List UInt8)) = false := by rw [ho]; rfl
 have e1 : (n.f0.toList == ([110, 97, 109, 101] : List UInt8)) = false := by rw [ho]; rfl
 have e2 : (n.f0.toList == ([110, 117, 109] : List UInt8)) = false := by rw [ho]; rfl
 have e3 : (n.f0.toList == ([104, 101, 120] : List UInt8)) = false := by rw [ho]; rfl
 have e4 : (n.f0.toList == ([102, 105, 108, 101] : List UInt8)) = false := by rw [ho]; rfl
 have e5 : (n.f0.toList == ([100, 101, 118, 105, 99, 101] : List UInt8)) = false := by rw [ho]; rfl
 have e6 : (n.f0.toList == ([106, 111, 117, 114, 110, 97, 108] : List UInt8)) = true := by rw [ho]; rfl
 have e7 : (n.f0.toList == ([107, 101, 121] : List UInt8)) = false := by rw [ho]; rfl
 have e8 : (n.f0.toList == ([114, 111, 111, 116] : List UInt8)) = false := by rw [ho]; rfl
 have e9 : (n.f0.toList == ([118, 111, 108, 117, 109, 101] : List UInt8)) = false := by rw [ho]; rfl
 have e10 : (n.f0.toList == ([101, 120, 112, 111, 114, 116] : List UInt8)) = false := by rw [ho]; rfl
 clear ho
 have HI := Aside0.mk hI
 have HS0 := Aside0.mk hI.start
 have HN2 := Aside0.mk hn2
 have HLN := Aside0.mk hlen
 have HIH := Aside0.mk ih
 have HT := Aside0.mk h
 have HL4 := Aside0.mk hl4
 clear hI hn2 hlen ih h hl4
 have hmf : ∀ (fn : Fn) (first cap : Array Value) (w : World), (Instr.makeFunc fn first cap).run Tryd.prog w = .ok (.func fn first cap) w := fun _ _ _ _ => rfl
 have hu25 := Tryd.underlying25
 have hu9 := Tryd.underlying9
 have hu69 := Tryd.underlying69
 have eg : Enters Tryd.prog 50 := enters_of Tryd.func50 (by kernel_rfl) rfl
 unfold Enters at eg
 unfold xBg
 go_enter Tryd.func22, Tryd.ntmps22
 go_upto_region 1 with (fail)
 generalize World.alloc (World.alloc w _) _ = W0 at *
 generalize hq_ : w.heap.size + 1 = q at *
 generalize w.heap.size = p at *
 clear hq_
 have HS := HS0
 clear HS0
 have p0 := (xAb HS.out.pb 0).trans rfl
 obtain ⟨q0, q1, q2, q3, q4⟩ := ey5 HS.out.qb
 go_upto_region 28 with (fail)
 clear p0 q0 q1 q2 q3 q4
 have HD := Aside0.mk HS.out.drew
 clear HS
 have q0 := (xAb HD.out.qb 0).trans rfl
 have q1 := (xAb HD.out.qb 1).trans rfl
 have q2 := (xAb HD.out.qb 2).trans rfl
 refine xDa (n := 10) (S := fun w' => w'.cell? ⟨q, 0, none⟩ = some (.string n.f0) ∧ w'.cell? ⟨q, 1, none⟩ = some (.string n.f1) ∧ w'.cell? ⟨q, 2, none⟩ = some (.int .i64 n.f2)) (ds := []) #[false, false, false, false, false, false, false, false, false, false] (by kernel_rfl) rfl rfl ?hS (fun hHeld => ?_)
 case hS => exact ⟨q0, q1, q2⟩
 generalize World.drew W0 = Wd at *
 refine xBy (i := 0) (N := some 76) (v := ?_) (a' := ?_) #[true, false, false, false, false, false, false, false, false, false] rfl rfl (by kernel_rfl) (fun _ _ _ h => h) (Or.inl ⟨by rfl, ?_⟩) ?_ ?_
 rotate_left
 ·intro w'
  go_simp
  with_reducible rfl
 rotate_left
 ·simp only [Act.put, List.setIfInBounds_toArray, List.set_cons_zero, List.set_cons_succ, xB0, xB1]
  rfl
 refine xBy (i := 1) (N := some 77) (v := ?_) (a' := ?_) #[true, true, false, false, false, false, false, false, false, false] rfl rfl (by kernel_rfl) (fun _ _ _ h => h) (Or.inl ⟨by rfl, ?_⟩) ?_ ?_
 rotate_left
 ·intro w'
  go_simp
  with_reducible rfl
 rotate_left
 ·simp only [Act.put, List.setIfInBounds_toArray, List.set_cons_zero, List.set_cons_succ, xB0, xB1]
  rfl
 refine xBy (i := 3) (N := some 79) (v := ?_) (a' := ?_) #[true, true, false, true, false, false, false, false, false, false] rfl rfl (by kernel_rfl) (fun _ _ _ h => h) (Or.inl ⟨by rfl, ?_⟩) ?_ ?_
 rotate_left
 ·intro w'
  go_simp
  with_reducible rfl
 rotate_left
 ·simp only [Act.put, List.setIfInBounds_toArray, List.set_cons_zero, List.set_cons_succ, xB0, xB1]
  rfl
 refine xBy (i := 5) (N := some 81) (v := ?_) (a' := ?_) #[true, true, false, true, false, true, false, false, false, false] rfl rfl (by kernel_rfl) (fun _ _ _ h => h) (Or.inl ⟨by rfl, ?_⟩) ?_ ?_
 rotate_left
 ·intro w'
  go_simp
  with_reducible rfl
 rotate_left
 ·simp only [Act.put, List.setIfInBounds_toArray, List.set_cons_zero, List.set_cons_succ, xB0, xB1]
  rfl
 refine xCr (i := 2) (N := some 78) (v := ?_) (a' := ?_) #[true, true, true, true, false, true, false, false, false, false] rfl rfl (by kernel_rfl) (fun _ _ _ h => h) (Or.inl ⟨by rfl, ?_⟩) hHeld ?_ ?_
 rotate_left
 ·rintro w' ⟨s0, s1, s2⟩
  go_simp
  with_reducible rfl
 rotate_left
 ·simp only [Act.put, List.setIfInBounds_toArray, List.set_cons_zero, List.set_cons_succ, xB0, xB1]
  rfl
 refine xCr (i := 4) (N := some 80) (v := ?_) (a' := ?_) #[true, true, true, true, true, true, false, false, false, false] rfl rfl (by kernel_rfl) (fun _ _ _ h => h) (Or.inl ⟨by rfl, ?_⟩) hHeld ?_ ?_
 rotate_left
 ·rintro w' ⟨s0, s1, s2⟩
  go_simp
  with_reducible rfl
 rotate_left
 ·simp only [Act.put, List.setIfInBounds_toArray, List.set_cons_zero, List.set_cons_succ, xB0, xB1]
  rfl
 refine xCr (i := 6) (N := some 82) (v := ?_) (a' := ?_) #[true, true, true, true, true, true, true, false, false, false] rfl rfl (by kernel_rfl) (fun _ _ _ h => h) (Or.inl ⟨by rfl, ?_⟩) hHeld ?_ ?_
 rotate_left
 ·rintro w' ⟨s0, s1, s2⟩
  go_simp
  with_reducible rfl
 rotate_left
 ·simp only [Act.put, List.setIfInBounds_toArray, List.set_cons_zero, List.set_cons_succ, xB0, xB1]
  rfl
 refine one_ (i := 7) (N := some 83) #[true, true, true, true, true, true, true, true, false, false] rfl rfl (by kernel_rfl) (by decide) (fun K hK => ?_)
 refine xF6 Tryd.func49 (by kernel_rfl) rfl #[.int .i64 n.f2] (by rfl) rfl rfl (by first | rfl | (simp [Act.eval]; done) | (go_simp; done)) ?_
 refine (xIg _ _ _ _ n A c l w _ w0 HD.out n.f2 HN2.out.1 HN2.out.2 (HI.out.tab _ (HI.out.bel.trans HD.out.fr.1))).mono ?_
 rintro e w1 ⟨rfl, h1⟩
 refine ⟨_, rfl, ?_⟩
 have H1 := Aside0.mk h1
 clear h1
 clear q0 q1 q2
 have q0 := (xAb H1.out.qb 0).trans rfl
 have q1 := (xAb H1.out.qb 1).trans rfl
 have q2 := (xAb H1.out.qb 2).trans rfl
 try clear hHeld
 refine hK.out _ _ ⟨q0, q1, q2⟩ (fun hHeld => ?_)
 clear hK K
 refine xCm (a' := ?_) ?_ ?_
 rotate_left
 ·show Act.put _ (some 83) _ = _
  simp only [Act.put, List.setIfInBounds_toArray, List.set_cons_zero, List.set_cons_succ, xB0, xB1]
  rfl
 refine one_ (i := 8) (N := some 84) #[true, true, true, true, true, true, true, true, true, false] rfl rfl (by kernel_rfl) (by decide) (fun K hK => ?_)
 refine value_ (v := .slice (some ⟨w1.heap.size, 0, none⟩) 6 6) (w1 := w1.alloc (.cells #[.string n.f0, .string (⟨#[32]⟩ : ByteArray), .string n.f1, .string (⟨#[32]⟩ : ByteArray), .string ⟨(Lib.itoa n.f2).toArray⟩, .string (⟨#[59, 10]⟩ : ByteArray)] 9 (0, 0))) (by rfl) rfl ?hr ?_
 case hr => first | (go_simp; done) | (go_simp; rfl)
 have H2 := Aside0.mk (H1.out.alloc (.cells #[.string n.f0, .string (⟨#[32]⟩ : ByteArray), .string n.f1, .string (⟨#[32]⟩ : ByteArray), .string ⟨(Lib.itoa n.f2).toArray⟩, .string (⟨#[59, 10]⟩ : ByteArray)] 9 (0, 0)))
 clear q0 q1 q2
 have q0 := (xAb H2.out.qb 0).trans rfl
 have q1 := (xAb H2.out.qb 1).trans rfl
 have q2 := (xAb H2.out.qb 2).trans rfl
 try clear hHeld
 refine hK.out _ _ ⟨q0, q1, q2⟩ (fun hHeld => ?_)
 clear hK K
 refine xCm (a' := ?_) ?_ ?_
 rotate_left
 ·show Act.put _ (some 84) _ = _
  simp only [Act.put, List.setIfInBounds_toArray, List.set_cons_zero, List.set_cons_succ, xB0, xB1]
  rfl
 refine one_ (i := 9) (N := some 85) #[true, true, true, true, true, true, true, true, true, true] rfl rfl (by kernel_rfl) (by decide) (fun K hK => ?_)
 have HP := Aside0.mk (H1.out.put [n.f0, (⟨#[32]⟩ : ByteArray), n.f1, (⟨#[32]⟩ : ByteArray), ⟨(Lib.itoa n.f2).toArray⟩, (⟨#[59, 10]⟩ : ByteArray)] #[.string n.f0, .string (⟨#[32]⟩ : ByteArray), .string n.f1, .string (⟨#[32]⟩ : ByteArray), .string ⟨(Lib.itoa n.f2).toArray⟩, .string (⟨#[59, 10]⟩ : ByteArray)] 6 rfl rfl (by have h1 := HLN.out; rw [HT.out] at h1; simp [catB] at h1 ⊢; omega) (by decide))
 refine goesV_ Tryd.func50 (by kernel_rfl) rfl #[.slice (some ⟨w1.heap.size, 0, none⟩) 6 6, .pointer (some ⟨p, 0, none⟩)] (by rfl) rfl rfl (by first | rfl | (simp [Act.eval]; done) | (go_simp; done)) (by first | rfl | (simp [Act.eval]; done) | (go_simp; done)) ?_
 refine HP.out.mono ?_
 rintro e w3 ⟨rfl, h3⟩
 refine ⟨_, rfl, ?_⟩
 have H3 := Aside0.mk h3
 clear h3
 clear q0 q1 q2
 have q0 := (xAb H3.out.qb 0).trans rfl
 have q1 := (xAb H3.out.qb 1).trans rfl
 have q2 := (xAb H3.out.qb 2).trans rfl
 try clear hHeld
 refine hK.out _ _ ⟨q0, q1, q2⟩ (fun hHeld => ?_)
 clear hK K
 refine xCm (a' := ?_) ?_ ?_
 rotate_left
 ·show Act.put _ (some 85) _ = _
  simp only [Act.put, List.setIfInBounds_toArray, List.set_cons_zero, List.set_cons_succ, xB0, xB1]
  rfl
 refine xEf (by kernel_rfl) ?_
 clear hHeld q0 q1 q2
 go_wp2
 refine bodyPost_end (results_none rfl _ _ _) rfl ?_
 have h1 := H3.out.end_
 rw [HT.out]
 simpa [catB] using h1
set_option maxHeartbeats 16000000 in
set_option maxRecDepth 100000 in
theorem wr_key (k : Nat) (ih : WrOk k) (w0 w : World) (b : Nat) (n : S25) (A : Option Addr) (c : Nat) (l t : List UInt8) (hI : WrI w0 w b n A c l) (hn2 : -9223372036854775808 ≤ n.f2 ∧ n.f2 ≤ 9223372036854775807) (hl4 : n.f4.length ≤ 1000000) (ho : n.f0.toList = ([107, 101, 121] : List UInt8)) (tx : List UInt8) (hw : xIh (xBw k) n.f4 = some tx) (h : t = n.f0.data.toList ++ [32] ++ n.f1.data.toList ++ [32] ++ tx ++ [59, 10]) (hlen : l.length + t.length ≤ 1000000000) :
  Calls Tryd.prog 22 #[.pointer (some ⟨b, 0, none⟩), xBg n A c] w (WrP w0.heap.size b (l ++ t) w) := by
 have e0 : (n.f0.toList == ([117, 115, 101] : List UInt8)) = false := by rw [ho]; rfl
 have e1 : (n.f0.toList == ([110, 97, 109, 101] : List UInt8)) = false := by rw [ho]; rfl
 have e2 : (n.f0.toList == ([110, 117, 109] : List UInt8)) = false := by rw [ho]; rfl
 have e3 : (n.f0.toList == ([104, 101, 120] : List UInt8)) = false := by rw [ho]; rfl
 have e4 : (n.f0.toList == ([102, 105, 108, 101] : List UInt8)) = false := by rw [ho]; rfl
 have e5 : (n.f0.toList == ([100, 101, 118, 105, 99, 101] : List UInt8)) = false := by rw [ho]; rfl
 have e6 : (n.f0.toList == ([106, 111, 117, 114, 110, 97, 108] : List UInt8)) = false := by rw [ho]; rfl
 have e7 : (n.f0.toList == ([107, 101, 121] : List UInt8)) = true := by rw [ho]; rfl
 have e8 : (n.f0.toList == ([114, 111, 111, 116] : List UInt8)) = false := by rw [ho]; rfl
 have e9 : (n.f0.toList == ([118, 111, 108, 117, 109, 101] : List UInt8)) = false := by rw [ho]; rfl
 have e10 : (n.f0.toList == ([101, 120, 112, 111, 114, 116] : List UInt8)) = false := by rw [ho]; rfl
 clear ho
 have HI := Aside0.mk hI
 have HS0 := Aside0.mk hI.start
 have HN2 := Aside0.mk hn2
 have HLN := Aside0.mk hlen
 have HIH := Aside0.mk ih
 have HT := Aside0.mk h
 have HL4 := Aside0.mk hl4
 clear hI hn2 hlen ih h hl4
 have hmf : ∀ (fn : Fn) (first cap : Array Value) (w : World), (Instr.makeFunc fn first cap).run Tryd.prog w = .ok (.func fn first cap) w := fun _ _ _ _ => rfl
 have hu25 := Tryd.underlying25
 have hu9 := Tryd.underlying9
 have hu69 := Tryd.underlying69
 have eg : Enters Tryd.prog 50 := enters_of Tryd.func50 (by kernel_rfl) rfl
 unfold Enters at eg
 unfold xBg
 go_enter Tryd.func22, Tryd.ntmps22
 go_upto_region 1 with (fail)
 generalize World.alloc (World.alloc w _) _ = W0 at *
 generalize hq_ : w.heap.size + 1 = q at *
 generalize w.heap.size = p at *
 clear hq_
 have HS := HS0
 clear HS0
 have p0 := (xAb HS.out.pb 0).trans rfl
 obtain ⟨q0, q1, q2, q3, q4⟩ := ey5 HS.out.qb
 have HW := Aside0.mk hw
 clear hw
 have HP1 := Aside0.mk (HS.out.put [n.f0, (⟨#[32]⟩ : ByteArray), n.f1, (⟨#[32]⟩ : ByteArray)] #[.string n.f0, .string (⟨#[32]⟩ : ByteArray), .string n.f1, .string (⟨#[32]⟩ : ByteArray)] 4 rfl rfl (by have h1 := HLN.out; rw [HT.out] at h1; simp [catB] at h1 ⊢; omega) (by decide))
 go_upto_region 32 with (go_at_fn 50; (with_reducible refine HP1.out.mono ?_); rintro e w1 ⟨rfl, h1⟩; have H1 := Aside0.mk h1; clear h1)
 clear HP1 HS
 clear p0 q0 q1 q2 q3 q4
 generalize hw1_ : w1 = W1 at *; clear hw1_
 have HD := Aside0.mk H1.out.drew
 clear H1
 obtain ⟨x, xs, hxs⟩ : ∃ x xs, n.f4 = x :: xs := by cases h : n.f4 with | nil => (have h1 := HW.out; rw [h] at h1; cases h1) | cons x xs => exact ⟨x, xs, rfl⟩
 have HWx := Aside0.mk (show xBw k x = some tx from by have h1 := HW.out; rw [hxs] at h1; exact h1)
 have hlt0 : 0 < n.f4.length := by rw [hxs]; simp
 have hrd : xA2 n.f4 0 = x := by rw [hxs]; rfl
 obtain ⟨ad, A4, c4, rfl, y0, y1, y2, y3, y4, hl4, hC4⟩ := xC3 HI.out.hC 0 (Int.le_refl _) (by omega)
 rw [hrd] at y0 y1 y2 y3 y4 hl4 hC4
 simp only [Int.toNat_zero, Nat.zero_mul, add0] at y0 y1 y2 y3 y4
 have HX := Aside0.mk hxs
 have HRD := Aside0.mk hrd
 have HL4x := Aside0.mk hl4
 have HC4x := Aside0.mk hC4
 clear hxs hrd hl4 hC4
 have hbd := HI.out.bel.trans HD.out.fr.1
 replace y0 := xAq hbd y0
 replace y1 := xAq hbd y1
 replace y2 := xAq hbd y2
 replace y3 := xAq hbd y3
 replace y4 := xAq hbd y4
 have HBD := Aside0.mk hbd
 clear hbd
 have p0 := (xAb HD.out.pb 0).trans rfl
 have q4 := (xAb HD.out.qb 4).trans rfl
 refine xDa (n := 6) (S := fun w' => w'.cell? ⟨p, 0, none⟩ = some (.pointer (some ⟨b, 0, none⟩)) ∧ w'.cell? ⟨q, 4, none⟩ = some (.slice (some ad) n.f4.length c) ∧ w'.cell? ad = some (.string x.f0) ∧ w'.cell? ⟨ad.block, ad.off + 1, none⟩ = some (.string x.f1) ∧ w'.cell? ⟨ad.block, ad.off + 2, none⟩ = some (.int .i64 x.f2) ∧ w'.cell? ⟨ad.block, ad.off + 3, none⟩ = some (.int .i64 x.f3) ∧ w'.cell? ⟨ad.block, ad.off + 4, none⟩ = some (.slice A4 x.f4.length c4)) (ds := [5]) #[false, false, false, false, false, false] (by kernel_rfl) rfl rfl ?hS (fun hHeld => ?_)
 case hS => exact ⟨p0, q4, y0, y1, y2, y3, y4⟩
 generalize World.drew W1 = Wd at *
 refine xBy (i := 1) (N := some 97) (v := ?_) (a' := ?_) #[false, true, false, false, false, false] rfl rfl (by kernel_rfl) (fun _ _ _ h => h) (Or.inl ⟨by rfl, ?_⟩) ?_ ?_
 rotate_left
 ·intro w'
  go_simp
  with_reducible rfl
 rotate_left
 ·simp only [Act.put, List.setIfInBounds_toArray, List.set_cons_zero, List.set_cons_succ, xB0, xB1]
  rfl
 refine xCr (i := 0) (N := some 96) (v := ?_) (a' := ?_) #[true, true, false, false, false, false] rfl rfl (by kernel_rfl) (fun _ _ _ h => h) (Or.inl ⟨by rfl, ?_⟩) hHeld ?_ ?_
 rotate_left
 ·rintro w' ⟨s0, s1, s2, s3, s4, s5, s6⟩
  go_simp
  with_reducible rfl
 rotate_left
 ·simp only [Act.put, List.setIfInBounds_toArray, List.set_cons_zero, List.set_cons_succ, xB0, xB1]
  rfl
 refine xCr (i := 2) (N := some 98) (v := ?_) (a' := ?_) #[true, true, true, false, false, false] rfl rfl (by kernel_rfl) (fun _ _ _ h => h) (Or.inl ⟨by rfl, ?_⟩) hHeld ?_ ?_
 rotate_left
 ·rintro w' ⟨s0, s1, s2, s3, s4, s5, s6⟩
  go_simp
  with_reducible rfl
 rotate_left
 ·simp only [Act.put, List.setIfInBounds_toArray, List.set_cons_zero, List.set_cons_succ, xB0, xB1]
  rfl
 refine xBy (i := 3) (N := some 99) (v := ?_) (a' := ?_) #[true, true, true, true, false, false] rfl rfl (by kernel_rfl) (fun _ _ _ h => h) (Or.inl ⟨by rfl, ?_⟩) ?_ ?_
 rotate_left
 ·intro w'
  go_simp
  with_reducible rfl
 rotate_left
 ·simp only [Act.put, List.setIfInBounds_toArray, List.set_cons_zero, List.set_cons_succ, xB0, xB1]
  rfl
 refine xCr (i := 4) (N := some 100) (v := ?_) (a' := ?_) #[true, true, true, true, true, false] rfl rfl (by kernel_rfl) (fun _ _ _ h => h) (Or.inl ⟨by rfl, ?_⟩) hHeld ?_ ?_
 rotate_left
 ·rintro w' ⟨s0, s1, s2, s3, s4, s5, s6⟩
  go_simp
  with_reducible rfl
 rotate_left
 ·simp only [Act.put, List.setIfInBounds_toArray, List.set_cons_zero, List.set_cons_succ, xB0, xB1]
  rfl
 refine xGv (i := 5) (N := some 101) #[true, true, true, true, true, true] rfl rfl (by kernel_rfl) (by decide) (fun K hK => ?_)
 refine xF6 Tryd.func22 (by kernel_rfl) rfl #[.pointer (some ⟨b, 0, none⟩), xBg x A4 c4] (by rfl) rfl rfl (by first | rfl | (simp [Act.eval, xBg]; done) | (go_simp; done)) ?_
 refine (HIH.out w0 Wd b x A4 c4 _ tx ⟨HBD.out, HD.out.bld, HL4x.out, HC4x.out, HI.out.tab⟩ HWx.out (by have h1 := HLN.out; rw [HT.out] at h1; simp [catB] at h1 ⊢; omega)).mono ?_
 rintro e w2 ⟨rfl, h1, h2⟩
 refine ⟨_, rfl, ?_⟩
 have H2 := Aside0.mk (HD.out.call h1 h2)
 clear h1 h2
 refine hK.out _ _ ?_
 clear hK K
 refine xCm (a' := ?_) ?_ ?_
 rotate_left
 ·show Act.put _ (some 101) _ = _
  simp only [Act.put, List.setIfInBounds_toArray, List.set_cons_zero, List.set_cons_succ, xB0, xB1]
  rfl
 refine xEf (by kernel_rfl) ?_
 clear hHeld p0 q4 y0 y1 y2 y3 y4 HD HBD
 have p0 := (xAb H2.out.pb 0).trans rfl
 obtain ⟨q0, q1, q2, q3, q4⟩ := ey5 H2.out.qb
 have HP3 := Aside0.mk (H2.out.put [(⟨#[59, 10]⟩ : ByteArray)] #[.string (⟨#[59, 10]⟩ : ByteArray)] 1 rfl rfl (by have h1 := HLN.out; rw [HT.out] at h1; simp [catB] at h1 ⊢; omega) (by decide))
 go_wp2_with (go_at_fn 50; (with_reducible refine HP3.out.mono ?_); rintro e w1 ⟨rfl, h1⟩; have H3 := Aside0.mk h1; clear h1)
 refine bodyPost_end (results_none rfl _ _ _) rfl ?_
 have h1 := H3.out.end_
 rw [HT.out]
 simpa [catB] using h1
set_option maxHeartbeats 16000000 in
set_option maxRecDepth 100000 in
theorem wr_file (k : Nat) (ih : WrOk k) (w0 w : World) (b : Nat) (n : S25) (A : Option Addr) (c : Nat) (l t : List UInt8) (hI : WrI w0 w b n A c l) (hn2 : -9223372036854775808 ≤ n.f2 ∧ n.f2 ≤ 9223372036854775807) (hl4 : n.f4.length ≤ 1000000) (ho : n.f0.toList = ([102, 105, 108, 101] : List UInt8)) (h : catW (xBw k) n.f4 = some t) (hlen : l.length + t.length ≤ 1000000000) :
  Calls Tryd.prog 22 #[.pointer (some ⟨b, 0, none⟩), xBg n A c] w (WrP w0.heap.size b (l ++ t) w) := by
 have e0 : (n.f0.toList == ([117, 115, 101] : List UInt8)) = false := by rw [ho]; rfl
 have e1 : (n.f0.toList == ([110, 97, 109, 101] : List UInt8)) = false := by rw [ho]; rfl
 have e2 : (n.f0.toList == ([110, 117, 109] : List UInt8)) = false := by rw [ho]; rfl
 have e3 : (n.f0.toList == ([104, 101, 120] : List UInt8)) = false := by rw [ho]; rfl
 have e4 : (n.f0.toList == ([102, 105, 108, 101] : List UInt8)) = true := by rw [ho]; rfl
 have e5 : (n.f0.toList == ([100, 101, 118, 105, 99, 101] : List UInt8)) = false := by rw [ho]; rfl
 have e6 : (n.f0.toList == ([106, 111, 117, 114, 110, 97, 108] : List UInt8)) = false := by rw [ho]; rfl
 have e7 : (n.f0.toList == ([107, 101, 121] : List UInt8)) = false := by rw [ho]; rfl
 have e8 : (n.f0.toList == ([114, 111, 111, 116] : List UInt8)) = false := by rw [ho]; rfl
 have e9 : (n.f0.toList == ([118, 111, 108, 117, 109, 101] : List UInt8)) = false := by rw [ho]; rfl
 have e10 : (n.f0.toList == ([101, 120, 112, 111, 114, 116] : List UInt8)) = false := by rw [ho]; rfl
 clear ho
 have HI := Aside0.mk hI
 have HS0 := Aside0.mk hI.start
 have HN2 := Aside0.mk hn2
 have HLN := Aside0.mk hlen
 have HIH := Aside0.mk ih
 have HT := Aside0.mk h
 have HL4 := Aside0.mk hl4
 clear hI hn2 hlen ih h hl4
 have hmf : ∀ (fn : Fn) (first cap : Array Value) (w : World), (Instr.makeFunc fn first cap).run Tryd.prog w = .ok (.func fn first cap) w := fun _ _ _ _ => rfl
 have hu25 := Tryd.underlying25
 have hu9 := Tryd.underlying9
 have hu69 := Tryd.underlying69
 have eg : Enters Tryd.prog 50 := enters_of Tryd.func50 (by kernel_rfl) rfl
 unfold Enters at eg
 unfold xBg
 go_enter Tryd.func22, Tryd.ntmps22
 go_upto_region 1 with (fail)
 generalize World.alloc (World.alloc w _) _ = W0 at *
 generalize hq_ : w.heap.size + 1 = q at *
 generalize w.heap.size = p at *
 clear hq_
 have HS := HS0
 clear HS0
 have p0 := (xAb HS.out.pb 0).trans rfl
 obtain ⟨q0, q1, q2, q3, q4⟩ := ey5 HS.out.qb
 go_upto_block 1 with (fail)
 go_wp2_with (fail)
 go_loopw [37] (fun i wr => ∃ j : Nat, j ≤ n.f4.length ∧ i = .int .i64 j ∧ Aside0 (CatS (xBw k) w0.heap.size b p q n A c l t w wr j)) (fun i _ => n.f4.length - (intOf i).toNat)
 case atStart => exact ⟨0, Nat.zero_le _, rfl, ⟨[], t, by simpa using HS.out, HT.out, rfl⟩⟩
 case round =>
  clear p0 q0 q1 q2 q3 q4
  clear HS
  obtain ⟨j, hj, rfl, HC⟩ := hrel
  obtain ⟨dn, u, hS, hu, hdu⟩ := HC.out
  have HS := Aside0.mk hS
  have HDU := Aside0.mk hdu
  clear hS hdu HC
  have p0 := (xAb HS.out.pb 0).trans rfl
  obtain ⟨q0, q1, q2, q3, q4⟩ := ey5 HS.out.qb
  by_cases hlt : j < n.f4.length
  ·skip
   obtain ⟨tx, u', htx, hu', hue⟩ := cat_inv hu hlt
   have HTX := Aside0.mk htx
   have HU := Aside0.mk hu'
   have HUE := Aside0.mk hue
   clear htx hu' hue hu
   obtain ⟨ad, A4, c4, hA, y0, y1, y2, y3, y4, hl4, hC4⟩ := xC3 HI.out.hC (j : Int) (by omega) (by omega)
   simp only [Int.toNat_natCast] at y0 y1 y2 y3 y4
   generalize hrd : xA2 n.f4 (j : Int) = x at *
   clear hrd
   have HL4x := Aside0.mk hl4
   have HC4x := Aside0.mk hC4
   clear hl4 hC4
   have hbd := HI.out.bel.trans HS.out.fr.1
   replace y0 := xAq hbd y0
   replace y1 := xAq hbd y1
   replace y2 := xAq hbd y2
   replace y3 := xAq hbd y3
   replace y4 := xAq hbd y4
   clear hbd
   subst hA
   have pl : (0 ≤ (j : Int)) = True := eq_true (by omega)
   have ql : ((j : Int) < (n.f4.length : Int)) = True := eq_true (by omega)
   have ql2 : (j < n.f4.length) = True := eq_true hlt
   have hl4 := HL4.out
   have hj6 : (j : Int) ≤ 1000000 := by omega
   go_upto_region 13 with (fail)
   generalize hW : World.alloc wr _ = W1
   have HS1 := Aside0.mk (show WrS w0.heap.size b p q n (some ad) c (l ++ dn) w W1 from by rw [← hW]; exact HS.out.alloc _)
   have NB := Aside0.mk (show W1.heap[wr.heap.size]? = some (.cells #[.string x.f0, .string x.f1, .int .i64 x.f2, .int .i64 x.f3, .slice A4 x.f4.length c4] 25 (0, 0)) from by rw [← hW]; exact xBn _ _)
   clear hW y0 y1 y2 y3 y4 pl ql ql2
   clear p0 q0 q1 q2 q3 q4
   have hcall := HIH.out w0 W1 b x A4 c4 (l ++ dn) tx ⟨HI.out.bel.trans HS1.out.fr.1, HS1.out.bld, HL4x.out, HC4x.out, HI.out.tab⟩ HTX.out (by have h1 := HLN.out; rw [← HDU.out, HUE.out] at h1; simp at h1 ⊢; omega)
   unfold xBg at hcall
   have HCALL := Aside0.mk hcall
   clear hcall
   have p0 := (xAb HS1.out.pb 0).trans rfl
   obtain ⟨q0, q1, q2, q3, q4⟩ := ey5 HS1.out.qb
   obtain ⟨z0, z1, z2, z3, z4⟩ := ey5 NB.out
   go_wp2_with (go_at_call 22; (with_reducible refine HCALL.out.mono ?_); rintro e w2 ⟨rfl, h1, h2⟩; have H2 := Aside0.mk (HS1.out.call h1 h2); clear h1 h2)
   go_roundw
   case rel => exact ⟨j + 1, by omega, by go_num, ⟨dn ++ tx, u', by rw [← List.append_assoc]; exact H2.out, HU.out, by rw [← HDU.out, HUE.out, List.append_assoc]⟩⟩
   case measure => simp [intOf]; omega
  have hje : j = n.f4.length := by omega
  subst hje
  go_wp2
  refine bodyPost_end (results_none rfl _ _ _) rfl ?_
  have h1 := HS.out.end_
  rw [List.drop_eq_nil_of_le (Nat.le_refl _)] at hu
  cases hu
  have h2 := HDU.out
  rw [List.append_nil] at h2
  rwa [h2] at h1
set_option maxHeartbeats 16000000 in
set_option maxRecDepth 100000 in
theorem xJ8 (k : Nat) (ih : WrOk k) (w0 w : World) (b : Nat) (n : S25) (A : Option Addr) (c : Nat) (l t : List UInt8) (hI : WrI w0 w b n A c l) (hn2 : -9223372036854775808 ≤ n.f2 ∧ n.f2 ≤ 9223372036854775807) (hl4 : n.f4.length ≤ 1000000) (ho : n.f0.toList = ([101, 120, 112, 111, 114, 116] : List UInt8)) (hf : (n.f2 == 1) = true) (h : t = [101, 120, 112, 111, 114, 116, 32] ++ n.f1.data.toList ++ [32, 114, 101, 97, 100, 111, 110, 108, 121] ++ [59, 10]) (hlen : l.length + t.length ≤ 1000000000) :
  Calls Tryd.prog 22 #[.pointer (some ⟨b, 0, none⟩), xBg n A c] w (WrP w0.heap.size b (l ++ t) w) := by
 have e0 : (n.f0.toList == ([117, 115, 101] : List UInt8)) = false := by rw [ho]; rfl
 have e1 : (n.f0.toList == ([110, 97, 109, 101] : List UInt8)) = false := by rw [ho]; rfl
 have e2 : (n.f0.toList == ([110, 117, 109] : List UInt8)) = false := by rw [ho]; rfl
 have e3 : (n.f0.toList == ([104, 101, 120] : List UInt8)) = false := by rw [ho]; rfl
 have e4 : (n.f0.toList == ([102, 105, 108, 101] : List UInt8)) = false := by rw [ho]; rfl
 have e5 : (n.f0.toList == ([100, 101, 118, 105, 99, 101] : List UInt8)) = false := by rw [ho]; rfl
 have e6 : (n.f0.toList == ([106, 111, 117, 114, 110, 97, 108] : List UInt8)) = false := by rw [ho]; rfl
 have e7 : (n.f0.toList == ([107, 101, 121] : List UInt8)) = false := by rw [ho]; rfl
 have e8 : (n.f0.toList == ([114, 111, 111, 116] : List UInt8)) = false := by rw [ho]; rfl
 have e9 : (n.f0.toList == ([118, 111, 108, 117, 109, 101] : List UInt8)) = false := by rw [ho]; rfl
 have e10 : (n.f0.toList == ([101, 120, 112, 111, 114, 116] : List UInt8)) = true := by rw [ho]; rfl
 clear ho
 have HI := Aside0.mk hI
 have HS0 := Aside0.mk hI.start
 have HN2 := Aside0.mk hn2
 have HLN := Aside0.mk hlen
 have HIH := Aside0.mk ih
 have HT := Aside0.mk h
 have HL4 := Aside0.mk hl4
 clear hI hn2 hlen ih h hl4
 have hmf : ∀ (fn : Fn) (first cap : Array Value) (w : World), (Instr.makeFunc fn first cap).run Tryd.prog w = .ok (.func fn first cap) w := fun _ _ _ _ => rfl
 have hu25 := Tryd.underlying25
 have hu9 := Tryd.underlying9
 have hu69 := Tryd.underlying69
 have eg : Enters Tryd.prog 50 := enters_of Tryd.func50 (by kernel_rfl) rfl
 unfold Enters at eg
 unfold xBg
 go_enter Tryd.func22, Tryd.ntmps22
 go_upto_region 1 with (fail)
 generalize World.alloc (World.alloc w _) _ = W0 at *
 generalize hq_ : w.heap.size + 1 = q at *
 generalize w.heap.size = p at *
 clear hq_
 have HS := HS0
 clear HS0
 have p0 := (xAb HS.out.pb 0).trans rfl
 obtain ⟨q0, q1, q2, q3, q4⟩ := ey5 HS.out.qb
 have HP1 := Aside0.mk (HS.out.put [(⟨#[101, 120, 112, 111, 114, 116, 32]⟩ : ByteArray), n.f1] #[.string (⟨#[101, 120, 112, 111, 114, 116, 32]⟩ : ByteArray), .string n.f1] 2 rfl rfl (by have h1 := HLN.out; rw [HT.out] at h1; simp [catB] at h1 ⊢; omega) (by decide))
 go_upto_region 40 with (go_at_fn 50; (with_reducible refine HP1.out.mono ?_); rintro e w1 ⟨rfl, h1⟩; have H1 := Aside0.mk h1; clear h1)
 clear HP1 HS
 clear p0 q0 q1 q2 q3 q4
 have p0 := (xAb H1.out.pb 0).trans rfl
 obtain ⟨q0, q1, q2, q3, q4⟩ := ey5 H1.out.qb
 go_upto_region 41 with (fail)
 have HP2 := Aside0.mk (H1.out.put [(⟨#[32, 114, 101, 97, 100, 111, 110, 108, 121]⟩ : ByteArray)] #[.string (⟨#[32, 114, 101, 97, 100, 111, 110, 108, 121]⟩ : ByteArray)] 1 rfl rfl (by have h1 := HLN.out; rw [HT.out] at h1; simp [catB] at h1 ⊢; omega) (by decide))
 go_upto_region 42 with (go_at_fn 50; (with_reducible refine HP2.out.mono ?_); rintro e w1 ⟨rfl, h1⟩; have H2 := Aside0.mk h1; clear h1)
 clear HP2 H1
 clear p0 q0 q1 q2 q3 q4
 have p0 := (xAb H2.out.pb 0).trans rfl
 obtain ⟨q0, q1, q2, q3, q4⟩ := ey5 H2.out.qb
 have HP3 := Aside0.mk (H2.out.put [(⟨#[59, 10]⟩ : ByteArray)] #[.string (⟨#[59, 10]⟩ : ByteArray)] 1 rfl rfl (by have h1 := HLN.out; rw [HT.out] at h1; simp [catB] at h1 ⊢; omega) (by decide))
 go_wp2_with (go_at_fn 50; (with_reducible refine HP3.out.mono ?_); rintro e w1 ⟨rfl, h1⟩; have H3 := Aside0.mk h1; clear h1)
 refine bodyPost_end (results_none rfl _ _ _) rfl ?_
 have h1 := H3.out.end_
 rw [HT.out]
 simpa [catB] using h1
set_option maxHeartbeats 16000000 in
set_option maxRecDepth 100000 in
theorem xJ9 (k : Nat) (ih : WrOk k) (w0 w : World) (b : Nat) (n : S25) (A : Option Addr) (c : Nat) (l t : List UInt8) (hI : WrI w0 w b n A c l) (hn2 : -9223372036854775808 ≤ n.f2 ∧ n.f2 ≤ 9223372036854775807) (hl4 : n.f4.length ≤ 1000000) (ho : n.f0.toList = ([101, 120, 112, 111, 114, 116] : List UInt8)) (hf : (n.f2 == 1) = false) (h : t = [101, 120, 112, 111, 114, 116, 32] ++ n.f1.data.toList ++ [] ++ [59, 10]) (hlen : l.length + t.length ≤ 1000000000) :
  Calls Tryd.prog 22 #[.pointer (some ⟨b, 0, none⟩), xBg n A c] w (WrP w0.heap.size b (l ++ t) w) := by
 have e0 : (n.f0.toList == ([117, 115, 101] : List UInt8)) = false := by rw [ho]; rfl
 have e1 : (n.f0.toList == ([110, 97, 109, 101] : List UInt8)) = false := by rw [ho]; rfl
 have e2 : (n.f0.toList == ([110, 117, 109] : List UInt8)) = false := by rw [ho]; rfl
 have e3 : (n.f0.toList == ([104, 101, 120] : List UInt8)) = false := by rw [ho]; rfl
 have e4 : (n.f0.toList == ([102, 105, 108, 101] : List UInt8)) = false := by rw [ho]; rfl
 have e5 : (n.f0.toList == ([100, 101, 118, 105, 99, 101] : List UInt8)) = false := by rw [ho]; rfl
 have e6 : (n.f0.toList == ([106, 111, 117, 114, 110, 97, 108] : List UInt8)) = false := by rw [ho]; rfl
 have e7 : (n.f0.toList == ([107, 101, 121] : List UInt8)) = false := by rw [ho]; rfl
 have e8 : (n.f0.toList == ([114, 111, 111, 116] : List UInt8)) = false := by rw [ho]; rfl
 have e9 : (n.f0.toList == ([118, 111, 108, 117, 109, 101] : List UInt8)) = false := by rw [ho]; rfl
 have e10 : (n.f0.toList == ([101, 120, 112, 111, 114, 116] : List UInt8)) = true := by rw [ho]; rfl
 clear ho
 have HI := Aside0.mk hI
 have HS0 := Aside0.mk hI.start
 have HN2 := Aside0.mk hn2
 have HLN := Aside0.mk hlen
 have HIH := Aside0.mk ih
 have HT := Aside0.mk h
 have HL4 := Aside0.mk hl4
 clear hI hn2 hlen ih h hl4
 have hmf : ∀ (fn : Fn) (first cap : Array Value) (w : World), (Instr.makeFunc fn first cap).run Tryd.prog w = .ok (.func fn first cap) w := fun _ _ _ _ => rfl
 have hu25 := Tryd.underlying25
 have hu9 := Tryd.underlying9
 have hu69 := Tryd.underlying69
 have eg : Enters Tryd.prog 50 := enters_of Tryd.func50 (by kernel_rfl) rfl
 unfold Enters at eg
 unfold xBg
 go_enter Tryd.func22, Tryd.ntmps22
 go_upto_region 1 with (fail)
 generalize World.alloc (World.alloc w _) _ = W0 at *
 generalize hq_ : w.heap.size + 1 = q at *
 generalize w.heap.size = p at *
 clear hq_
 have HS := HS0
 clear HS0
 have p0 := (xAb HS.out.pb 0).trans rfl
 obtain ⟨q0, q1, q2, q3, q4⟩ := ey5 HS.out.qb
 have HP1 := Aside0.mk (HS.out.put [(⟨#[101, 120, 112, 111, 114, 116, 32]⟩ : ByteArray), n.f1] #[.string (⟨#[101, 120, 112, 111, 114, 116, 32]⟩ : ByteArray), .string n.f1] 2 rfl rfl (by have h1 := HLN.out; rw [HT.out] at h1; simp [catB] at h1 ⊢; omega) (by decide))
 go_upto_region 40 with (go_at_fn 50; (with_reducible refine HP1.out.mono ?_); rintro e w1 ⟨rfl, h1⟩; have H1 := Aside0.mk h1; clear h1)
 clear HP1 HS
 clear p0 q0 q1 q2 q3 q4
 have p0 := (xAb H1.out.pb 0).trans rfl
 obtain ⟨q0, q1, q2, q3, q4⟩ := ey5 H1.out.qb
 go_upto_region 42 with (fail)
 have HP3 := Aside0.mk (H1.out.put [(⟨#[59, 10]⟩ : ByteArray)] #[.string (⟨#[59, 10]⟩ : ByteArray)] 1 rfl rfl (by have h1 := HLN.out; rw [HT.out] at h1; simp [catB] at h1 ⊢; omega) (by decide))
 go_wp2_with (go_at_fn 50; (with_reducible refine HP3.out.mono ?_); rintro e w1 ⟨rfl, h1⟩; have H3 := Aside0.mk h1; clear h1)
 refine bodyPost_end (results_none rfl _ _ _) rfl ?_
 have h1 := H3.out.end_
 rw [HT.out]
 simpa [catB] using h1
set_option maxHeartbeats 16000000 in
set_option maxRecDepth 100000 in
theorem wr_root (k : Nat) (ih : WrOk k) (w0 w : World) (b : Nat) (n : S25) (A : Option Addr) (c : Nat) (l t : List UInt8) (hI : WrI w0 w b n A c l) (hn2 : -9223372036854775808 ≤ n.f2 ∧ n.f2 ≤ 9223372036854775807) (hl4 : n.f4.length ≤ 1000000) (ho : n.f0.toList = ([114, 111, 111, 116] : List UInt8)) (tx : List UInt8) (hw : xIh (xBw k) n.f4 = some tx) (h : t = n.f0.data.toList ++ [32] ++ n.f1.data.toList ++ [32] ++ tx ++ [59, 10]) (hlen : l.length + t.length ≤ 1000000000) :
  Calls Tryd.prog 22 #[.pointer (some ⟨b, 0, none⟩), xBg n A c] w (WrP w0.heap.size b (l ++ t) w) := by
 have e0 : (n.f0.toList == ([117, 115, 101] : List UInt8)) = false := by rw [ho]; rfl
 have e1 : (n.f0.toList == ([110, 97, 109, 101] : List UInt8)) = false := by rw [ho]; rfl
 have e2 : (n.f0.toList == ([110, 117, 109] : List UInt8)) = false := by rw [ho]; rfl
 have e3 : (n.f0.toList == ([104, 101, 120] : List UInt8)) = false := by rw [ho]; rfl
 have e4 : (n.f0.toList == ([102, 105, 108, 101] : List UInt8)) = false := by rw [ho]; rfl
 have e5 : (n.f0.toList == ([100, 101, 118, 105, 99, 101] : List UInt8)) = false := by rw [ho]; rfl
 have e6 : (n.f0.toList == ([106, 111, 117, 114, 110, 97, 108] : List UInt8)) = false := by rw [ho]; rfl
 have e7 : (n.f0.toList == ([107, 101, 121] : List UInt8)) = false := by rw [ho]; rfl
 have e8 : (n.f0.toList == ([114, 111, 111, 116] : List UInt8)) = true := by rw [ho]; rfl
 have e9 : (n.f0.toList == ([118, 111, 108, 117, 109, 101] : List UInt8)) = false := by rw [ho]; rfl
 have e10 : (n.f0.toList == ([101, 120, 112, 111, 114, 116] : List UInt8)) = false := by rw [ho]; rfl
 clear ho
 have HI := Aside0.mk hI
 have HS0 := Aside0.mk hI.start
 have HN2 := Aside0.mk hn2
 have HLN := Aside0.mk hlen
 have HIH := Aside0.mk ih
 have HT := Aside0.mk h
 have HL4 := Aside0.mk hl4
 clear hI hn2 hlen ih h hl4
 have hmf : ∀ (fn : Fn) (first cap : Array Value) (w : World), (Instr.makeFunc fn first cap).run Tryd.prog w = .ok (.func fn first cap) w := fun _ _ _ _ => rfl
 have hu25 := Tryd.underlying25
 have hu9 := Tryd.underlying9
 have hu69 := Tryd.underlying69
 have eg : Enters Tryd.prog 50 := enters_of Tryd.func50 (by kernel_rfl) rfl
 unfold Enters at eg
 unfold xBg
 go_enter Tryd.func22, Tryd.ntmps22
 go_upto_region 1 with (fail)
 generalize World.alloc (World.alloc w _) _ = W0 at *
 generalize hq_ : w.heap.size + 1 = q at *
 generalize w.heap.size = p at *
 clear hq_
 have HS := HS0
 clear HS0
 have p0 := (xAb HS.out.pb 0).trans rfl
 obtain ⟨q0, q1, q2, q3, q4⟩ := ey5 HS.out.qb
 have HW := Aside0.mk hw
 clear hw
 have HP1 := Aside0.mk (HS.out.put [n.f0, (⟨#[32]⟩ : ByteArray), n.f1, (⟨#[32]⟩ : ByteArray)] #[.string n.f0, .string (⟨#[32]⟩ : ByteArray), .string n.f1, .string (⟨#[32]⟩ : ByteArray)] 4 rfl rfl (by have h1 := HLN.out; rw [HT.out] at h1; simp [catB] at h1 ⊢; omega) (by decide))
 go_upto_region 32 with (go_at_fn 50; (with_reducible refine HP1.out.mono ?_); rintro e w1 ⟨rfl, h1⟩; have H1 := Aside0.mk h1; clear h1)
 clear HP1 HS
 clear p0 q0 q1 q2 q3 q4
 generalize hw1_ : w1 = W1 at *; clear hw1_
 have HD := Aside0.mk H1.out.drew
 clear H1
 obtain ⟨x, xs, hxs⟩ : ∃ x xs, n.f4 = x :: xs := by cases h : n.f4 with | nil => (have h1 := HW.out; rw [h] at h1; cases h1) | cons x xs => exact ⟨x, xs, rfl⟩
 have HWx := Aside0.mk (show xBw k x = some tx from by have h1 := HW.out; rw [hxs] at h1; exact h1)
 have hlt0 : 0 < n.f4.length := by rw [hxs]; simp
 have hrd : xA2 n.f4 0 = x := by rw [hxs]; rfl
 obtain ⟨ad, A4, c4, rfl, y0, y1, y2, y3, y4, hl4, hC4⟩ := xC3 HI.out.hC 0 (Int.le_refl _) (by omega)
 rw [hrd] at y0 y1 y2 y3 y4 hl4 hC4
 simp only [Int.toNat_zero, Nat.zero_mul, add0] at y0 y1 y2 y3 y4
 have HX := Aside0.mk hxs
 have HRD := Aside0.mk hrd
 have HL4x := Aside0.mk hl4
 have HC4x := Aside0.mk hC4
 clear hxs hrd hl4 hC4
 have hbd := HI.out.bel.trans HD.out.fr.1
 replace y0 := xAq hbd y0
 replace y1 := xAq hbd y1
 replace y2 := xAq hbd y2
 replace y3 := xAq hbd y3
 replace y4 := xAq hbd y4
 have HBD := Aside0.mk hbd
 clear hbd
 have p0 := (xAb HD.out.pb 0).trans rfl
 have q4 := (xAb HD.out.qb 4).trans rfl
 refine xDa (n := 6) (S := fun w' => w'.cell? ⟨p, 0, none⟩ = some (.pointer (some ⟨b, 0, none⟩)) ∧ w'.cell? ⟨q, 4, none⟩ = some (.slice (some ad) n.f4.length c) ∧ w'.cell? ad = some (.string x.f0) ∧ w'.cell? ⟨ad.block, ad.off + 1, none⟩ = some (.string x.f1) ∧ w'.cell? ⟨ad.block, ad.off + 2, none⟩ = some (.int .i64 x.f2) ∧ w'.cell? ⟨ad.block, ad.off + 3, none⟩ = some (.int .i64 x.f3) ∧ w'.cell? ⟨ad.block, ad.off + 4, none⟩ = some (.slice A4 x.f4.length c4)) (ds := [5]) #[false, false, false, false, false, false] (by kernel_rfl) rfl rfl ?hS (fun hHeld => ?_)
 case hS => exact ⟨p0, q4, y0, y1, y2, y3, y4⟩
 generalize World.drew W1 = Wd at *
 refine xBy (i := 1) (N := some 97) (v := ?_) (a' := ?_) #[false, true, false, false, false, false] rfl rfl (by kernel_rfl) (fun _ _ _ h => h) (Or.inl ⟨by rfl, ?_⟩) ?_ ?_
 rotate_left
 ·intro w'
  go_simp
  with_reducible rfl
 rotate_left
 ·simp only [Act.put, List.setIfInBounds_toArray, List.set_cons_zero, List.set_cons_succ, xB0, xB1]
  rfl
 refine xCr (i := 0) (N := some 96) (v := ?_) (a' := ?_) #[true, true, false, false, false, false] rfl rfl (by kernel_rfl) (fun _ _ _ h => h) (Or.inl ⟨by rfl, ?_⟩) hHeld ?_ ?_
 rotate_left
 ·rintro w' ⟨s0, s1, s2, s3, s4, s5, s6⟩
  go_simp
  with_reducible rfl
 rotate_left
 ·simp only [Act.put, List.setIfInBounds_toArray, List.set_cons_zero, List.set_cons_succ, xB0, xB1]
  rfl
 refine xCr (i := 2) (N := some 98) (v := ?_) (a' := ?_) #[true, true, true, false, false, false] rfl rfl (by kernel_rfl) (fun _ _ _ h => h) (Or.inl ⟨by rfl, ?_⟩) hHeld ?_ ?_
 rotate_left
 ·rintro w' ⟨s0, s1, s2, s3, s4, s5, s6⟩
  go_simp
  with_reducible rfl
 rotate_left
 ·simp only [Act.put, List.setIfInBounds_toArray, List.set_cons_zero, List.set_cons_succ, xB0, xB1]
  rfl
 refine xBy (i := 3) (N := some 99) (v := ?_) (a' := ?_) #[true, true, true, true, false, false] rfl rfl (by kernel_rfl) (fun _ _ _ h => h) (Or.inl ⟨by rfl, ?_⟩) ?_ ?_
 rotate_left
 ·intro w'
  go_simp
  with_reducible rfl
 rotate_left
 ·simp only [Act.put, List.setIfInBounds_toArray, List.set_cons_zero, List.set_cons_succ, xB0, xB1]
  rfl
 refine xCr (i := 4) (N := some 100) (v := ?_) (a' := ?_) #[true, true, true, true, true, false] rfl rfl (by kernel_rfl) (fun _ _ _ h => h) (Or.inl ⟨by rfl, ?_⟩) hHeld ?_ ?_
 rotate_left
 ·rintro w' ⟨s0, s1, s2, s3, s4, s5, s6⟩
  go_simp
  with_reducible rfl
 rotate_left
 ·simp only [Act.put, List.setIfInBounds_toArray, List.set_cons_zero, List.set_cons_succ, xB0, xB1]
  rfl
 refine xGv (i := 5) (N := some 101) #[true, true, true, true, true, true] rfl rfl (by kernel_rfl) (by decide) (fun K hK => ?_)
 refine xF6 Tryd.func22 (by kernel_rfl) rfl #[.pointer (some ⟨b, 0, none⟩), xBg x A4 c4] (by rfl) rfl rfl (by first | rfl | (simp [Act.eval, xBg]; done) | (go_simp; done)) ?_
 refine (HIH.out w0 Wd b x A4 c4 _ tx ⟨HBD.out, HD.out.bld, HL4x.out, HC4x.out, HI.out.tab⟩ HWx.out (by have h1 := HLN.out; rw [HT.out] at h1; simp [catB] at h1 ⊢; omega)).mono ?_
 rintro e w2 ⟨rfl, h1, h2⟩
 refine ⟨_, rfl, ?_⟩
 have H2 := Aside0.mk (HD.out.call h1 h2)
 clear h1 h2
 refine hK.out _ _ ?_
 clear hK K
 refine xCm (a' := ?_) ?_ ?_
 rotate_left
 ·show Act.put _ (some 101) _ = _
  simp only [Act.put, List.setIfInBounds_toArray, List.set_cons_zero, List.set_cons_succ, xB0, xB1]
  rfl
 refine xEf (by kernel_rfl) ?_
 clear hHeld p0 q4 y0 y1 y2 y3 y4 HD HBD
 have p0 := (xAb H2.out.pb 0).trans rfl
 obtain ⟨q0, q1, q2, q3, q4⟩ := ey5 H2.out.qb
 have HP3 := Aside0.mk (H2.out.put [(⟨#[59, 10]⟩ : ByteArray)] #[.string (⟨#[59, 10]⟩ : ByteArray)] 1 rfl rfl (by have h1 := HLN.out; rw [HT.out] at h1; simp [catB] at h1 ⊢; omega) (by decide))
 go_wp2_with (go_at_fn 50; (with_reducible refine HP3.out.mono ?_); rintro e w1 ⟨rfl, h1⟩; have H3 := Aside0.mk h1; clear h1)
 refine bodyPost_end (results_none rfl _ _ _) rfl ?_
 have h1 := H3.out.end_
 rw [HT.out]
 simpa [catB] using h1
set_option maxHeartbeats 16000000 in
set_option maxRecDepth 100000 in
theorem xK2 (k : Nat) (ih : WrOk k) (w0 w : World) (b : Nat) (n : S25) (A : Option Addr) (c : Nat) (l t : List UInt8) (hI : WrI w0 w b n A c l) (hn2 : -9223372036854775808 ≤ n.f2 ∧ n.f2 ≤ 9223372036854775807) (hl4 : n.f4.length ≤ 1000000) (ho : n.f0.toList = ([118, 111, 108, 117, 109, 101] : List UInt8)) (tx : List UInt8) (hw : xIh (xBw k) n.f4 = some tx) (h : t = [118, 111, 108, 117, 109, 101, 32] ++ n.f1.data.toList ++ [32, 61, 32] ++ tx ++ [59, 10]) (hlen : l.length + t.length ≤ 1000000000) :
  Calls Tryd.prog 22 #[.pointer (some ⟨b, 0, none⟩), xBg n A c] w (WrP w0.heap.size b (l ++ t) w) := by
 have e0 : (n.f0.toList == ([117, 115, 101] : List UInt8)) = false := by rw [ho]; rfl
 have e1 : (n.f0.toList == ([110, 97, 109, 101] : List UInt8)) = false := by rw [ho]; rfl
 have e2 : (n.f0.toList == ([110, 117, 109] : List UInt8)) = false := by rw [ho]; rfl
 have e3 : (n.f0.toList == ([104, 101, 120] : List UInt8)) = false := by rw [ho]; rfl
 have e4 : (n.f0.toList == ([102, 105, 108, 101] : List UInt8)) = false := by rw [ho]; rfl
 have e5 : (n.f0.toList == ([100, 101, 118, 105, 99, 101] : List UInt8)) = false := by rw [ho]; rfl
 have e6 : (n.f0.toList == ([106, 111, 117, 114, 110, 97, 108] : List UInt8)) = false := by rw [ho]; rfl
 have e7 : (n.f0.toList == ([107, 101, 121] : List UInt8)) = false := by rw [ho]; rfl
 have e8 : (n.f0.toList == ([114, 111, 111, 116] : List UInt8)) = false := by rw [ho]; rfl
 have e9 : (n.f0.toList == ([118, 111, 108, 117, 109, 101] : List UInt8)) = true := by rw [ho]; rfl
 have e10 : (n.f0.toList == ([101, 120, 112, 111, 114, 116] : List UInt8)) = false := by rw [ho]; rfl
 clear ho
 have HI := Aside0.mk hI
 have HS0 := Aside0.mk hI.start
 have HN2 := Aside0.mk hn2
 have HLN := Aside0.mk hlen
 have HIH := Aside0.mk ih
 have HT := Aside0.mk h
 have HL4 := Aside0.mk hl4
 clear hI hn2 hlen ih h hl4
 have hmf : ∀ (fn : Fn) (first cap : Array Value) (w : World), (Instr.makeFunc fn first cap).run Tryd.prog w = .ok (.func fn first cap) w := fun _ _ _ _ => rfl
 have hu25 := Tryd.underlying25
 have hu9 := Tryd.underlying9
 have hu69 := Tryd.underlying69
 have eg : Enters Tryd.prog 50 := enters_of Tryd.func50 (by kernel_rfl) rfl
 unfold Enters at eg
 unfold xBg
 go_enter Tryd.func22, Tryd.ntmps22
 go_upto_region 1 with (fail)
 generalize World.alloc (World.alloc w _) _ = W0 at *
 generalize hq_ : w.heap.size + 1 = q at *
 generalize w.heap.size = p at *
 clear hq_
 have HS := HS0
 clear HS0
 have p0 := (xAb HS.out.pb 0).trans rfl
 obtain ⟨q0, q1, q2, q3, q4⟩ := ey5 HS.out.qb
 have HW := Aside0.mk hw
 clear hw
 have HP1 := Aside0.mk (HS.out.put [(⟨#[118, 111, 108, 117, 109, 101, 32]⟩ : ByteArray), n.f1, (⟨#[32, 61, 32]⟩ : ByteArray)] #[.string (⟨#[118, 111, 108, 117, 109, 101, 32]⟩ : ByteArray), .string n.f1, .string (⟨#[32, 61, 32]⟩ : ByteArray)] 3 rfl rfl (by have h1 := HLN.out; rw [HT.out] at h1; simp [catB] at h1 ⊢; omega) (by decide))
 go_upto_region 36 with (go_at_fn 50; (with_reducible refine HP1.out.mono ?_); rintro e w1 ⟨rfl, h1⟩; have H1 := Aside0.mk h1; clear h1)
 clear HP1 HS
 clear p0 q0 q1 q2 q3 q4
 generalize hw1_ : w1 = W1 at *; clear hw1_
 have HD := Aside0.mk H1.out.drew
 clear H1
 obtain ⟨x, xs, hxs⟩ : ∃ x xs, n.f4 = x :: xs := by cases h : n.f4 with | nil => (have h1 := HW.out; rw [h] at h1; cases h1) | cons x xs => exact ⟨x, xs, rfl⟩
 have HWx := Aside0.mk (show xBw k x = some tx from by have h1 := HW.out; rw [hxs] at h1; exact h1)
 have hlt0 : 0 < n.f4.length := by rw [hxs]; simp
 have hrd : xA2 n.f4 0 = x := by rw [hxs]; rfl
 obtain ⟨ad, A4, c4, rfl, y0, y1, y2, y3, y4, hl4, hC4⟩ := xC3 HI.out.hC 0 (Int.le_refl _) (by omega)
 rw [hrd] at y0 y1 y2 y3 y4 hl4 hC4
 simp only [Int.toNat_zero, Nat.zero_mul, add0] at y0 y1 y2 y3 y4
 have HX := Aside0.mk hxs
 have HRD := Aside0.mk hrd
 have HL4x := Aside0.mk hl4
 have HC4x := Aside0.mk hC4
 clear hxs hrd hl4 hC4
 have hbd := HI.out.bel.trans HD.out.fr.1
 replace y0 := xAq hbd y0
 replace y1 := xAq hbd y1
 replace y2 := xAq hbd y2
 replace y3 := xAq hbd y3
 replace y4 := xAq hbd y4
 have HBD := Aside0.mk hbd
 clear hbd
 have p0 := (xAb HD.out.pb 0).trans rfl
 have q4 := (xAb HD.out.qb 4).trans rfl
 refine xDa (n := 6) (S := fun w' => w'.cell? ⟨p, 0, none⟩ = some (.pointer (some ⟨b, 0, none⟩)) ∧ w'.cell? ⟨q, 4, none⟩ = some (.slice (some ad) n.f4.length c) ∧ w'.cell? ad = some (.string x.f0) ∧ w'.cell? ⟨ad.block, ad.off + 1, none⟩ = some (.string x.f1) ∧ w'.cell? ⟨ad.block, ad.off + 2, none⟩ = some (.int .i64 x.f2) ∧ w'.cell? ⟨ad.block, ad.off + 3, none⟩ = some (.int .i64 x.f3) ∧ w'.cell? ⟨ad.block, ad.off + 4, none⟩ = some (.slice A4 x.f4.length c4)) (ds := [5]) #[false, false, false, false, false, false] (by kernel_rfl) rfl rfl ?hS (fun hHeld => ?_)
 case hS => exact ⟨p0, q4, y0, y1, y2, y3, y4⟩
 generalize World.drew W1 = Wd at *
 refine xBy (i := 1) (N := some 113) (v := ?_) (a' := ?_) #[false, true, false, false, false, false] rfl rfl (by kernel_rfl) (fun _ _ _ h => h) (Or.inl ⟨by rfl, ?_⟩) ?_ ?_
 rotate_left
 ·intro w'
  go_simp
  with_reducible rfl
 rotate_left
 ·simp only [Act.put, List.setIfInBounds_toArray, List.set_cons_zero, List.set_cons_succ, xB0, xB1]
  rfl
 refine xCr (i := 0) (N := some 112) (v := ?_) (a' := ?_) #[true, true, false, false, false, false] rfl rfl (by kernel_rfl) (fun _ _ _ h => h) (Or.inl ⟨by rfl, ?_⟩) hHeld ?_ ?_
 rotate_left
 ·rintro w' ⟨s0, s1, s2, s3, s4, s5, s6⟩
  go_simp
  with_reducible rfl
 rotate_left
 ·simp only [Act.put, List.setIfInBounds_toArray, List.set_cons_zero, List.set_cons_succ, xB0, xB1]
  rfl
 refine xCr (i := 2) (N := some 114) (v := ?_) (a' := ?_) #[true, true, true, false, false, false] rfl rfl (by kernel_rfl) (fun _ _ _ h => h) (Or.inl ⟨by rfl, ?_⟩) hHeld ?_ ?_
 rotate_left
 ·rintro w' ⟨s0, s1, s2, s3, s4, s5, s6⟩
  go_simp
  with_reducible rfl
 rotate_left
 ·simp only [Act.put, List.setIfInBounds_toArray, List.set_cons_zero, List.set_cons_succ, xB0, xB1]
  rfl
 refine xBy (i := 3) (N := some 115) (v := ?_) (a' := ?_) #[true, true, true, true, false, false] rfl rfl (by kernel_rfl) (fun _ _ _ h => h) (Or.inl ⟨by rfl, ?_⟩) ?_ ?_
 rotate_left
 ·intro w'
  go_simp
  with_reducible rfl
 rotate_left
 ·simp only [Act.put, List.setIfInBounds_toArray, List.set_cons_zero, List.set_cons_succ, xB0, xB1]
  rfl
 refine xCr (i := 4) (N := some 116) (v := ?_) (a' := ?_) #[true, true, true, true, true, false] rfl rfl (by kernel_rfl) (fun _ _ _ h => h) (Or.inl ⟨by rfl, ?_⟩) hHeld ?_ ?_
 rotate_left
 ·rintro w' ⟨s0, s1, s2, s3, s4, s5, s6⟩
  go_simp
  with_reducible rfl
 rotate_left
 ·simp only [Act.put, List.setIfInBounds_toArray, List.set_cons_zero, List.set_cons_succ, xB0, xB1]
  rfl
 refine xGv (i := 5) (N := some 117) #[true, true, true, true, true, true] rfl rfl (by kernel_rfl) (by decide) (fun K hK => ?_)
 refine xF6 Tryd.func22 (by kernel_rfl) rfl #[.pointer (some ⟨b, 0, none⟩), xBg x A4 c4] (by rfl) rfl rfl (by first | rfl | (simp [Act.eval, xBg]; done) | (go_simp; done)) ?_
 refine (HIH.out w0 Wd b x A4 c4 _ tx ⟨HBD.out, HD.out.bld, HL4x.out, HC4x.out, HI.out.tab⟩ HWx.out (by have h1 := HLN.out; rw [HT.out] at h1; simp [catB] at h1 ⊢; omega)).mono ?_
 rintro e w2 ⟨rfl, h1, h2⟩
 refine ⟨_, rfl, ?_⟩
 have H2 := Aside0.mk (HD.out.call h1 h2)
 clear h1 h2
 refine hK.out _ _ ?_
 clear hK K
 refine xCm (a' := ?_) ?_ ?_
 rotate_left
 ·show Act.put _ (some 117) _ = _
  simp only [Act.put, List.setIfInBounds_toArray, List.set_cons_zero, List.set_cons_succ, xB0, xB1]
  rfl
 refine xEf (by kernel_rfl) ?_
 clear hHeld p0 q4 y0 y1 y2 y3 y4 HD HBD
 have p0 := (xAb H2.out.pb 0).trans rfl
 obtain ⟨q0, q1, q2, q3, q4⟩ := ey5 H2.out.qb
 have HP3 := Aside0.mk (H2.out.put [(⟨#[59, 10]⟩ : ByteArray)] #[.string (⟨#[59, 10]⟩ : ByteArray)] 1 rfl rfl (by have h1 := HLN.out; rw [HT.out] at h1; simp [catB] at h1 ⊢; omega) (by decide))
 go_wp2_with (go_at_fn 50; (with_reducible refine HP3.out.mono ?_); rintro e w1 ⟨rfl, h1⟩; have H3 := Aside0.mk h1; clear h1)
 refine bodyPost_end (results_none rfl _ _ _) rfl ?_
 have h1 := H3.out.end_
 rw [HT.out]
 simpa [catB] using h1
set_option maxHeartbeats 16000000 in
set_option maxRecDepth 100000 in
theorem xK3 (k : Nat) (ih : WrOk k) (w0 w : World) (b : Nat) (n : S25) (A : Option Addr) (c : Nat) (l t : List UInt8) (hI : WrI w0 w b n A c l) (hn2 : -9223372036854775808 ≤ n.f2 ∧ n.f2 ≤ 9223372036854775807) (hl4 : n.f4.length ≤ 1000000) (hn0 : ¬ n.f0.toList = ([117, 115, 101] : List UInt8)) (hn1 : ¬ n.f0.toList = ([110, 97, 109, 101] : List UInt8)) (hn2 : ¬ n.f0.toList = ([110, 117, 109] : List UInt8)) (hn3 : ¬ n.f0.toList = ([104, 101, 120] : List UInt8)) (hn4 : ¬ n.f0.toList = ([102, 105, 108, 101] : List UInt8)) (hn5 : ¬ n.f0.toList = ([100, 101, 118, 105, 99, 101] : List UInt8)) (hn6 : ¬ n.f0.toList = ([106, 111, 117, 114, 110, 97, 108] : List UInt8)) (hn7 : ¬ n.f0.toList = ([107, 101, 121] : List UInt8)) (hn8 : ¬ n.f0.toList = ([114, 111, 111, 116] : List UInt8)) (hn9 : ¬ n.f0.toList = ([118, 111, 108, 117, 109, 101] : List UInt8)) (hn10 : ¬ n.f0.toList = ([101, 120, 112, 111, 114, 116] : List UInt8)) (tx0 : List UInt8) (hs : sepW (xBw k) true n.f4 = some tx0) (h : t = n.f0.data.toList ++ [40] ++ tx0 ++ [41]) (hlen : l.length + t.length ≤ 1000000000) :
  Calls Tryd.prog 22 #[.pointer (some ⟨b, 0, none⟩), xBg n A c] w (WrP w0.heap.size b (l ++ t) w) := by
 have e0 : (n.f0.toList == ([117, 115, 101] : List UInt8)) = false := beq_eq_false_iff_ne.2 hn0
 have e1 : (n.f0.toList == ([110, 97, 109, 101] : List UInt8)) = false := beq_eq_false_iff_ne.2 hn1
 have e2 : (n.f0.toList == ([110, 117, 109] : List UInt8)) = false := beq_eq_false_iff_ne.2 hn2
 have e3 : (n.f0.toList == ([104, 101, 120] : List UInt8)) = false := beq_eq_false_iff_ne.2 hn3
 have e4 : (n.f0.toList == ([102, 105, 108, 101] : List UInt8)) = false := beq_eq_false_iff_ne.2 hn4
 have e5 : (n.f0.toList == ([100, 101, 118, 105, 99, 101] : List UInt8)) = false := beq_eq_false_iff_ne.2 hn5
 have e6 : (n.f0.toList == ([106, 111, 117, 114, 110, 97, 108] : List UInt8)) = false := beq_eq_false_iff_ne.2 hn6
 have e7 : (n.f0.toList == ([107, 101, 121] : List UInt8)) = false := beq_eq_false_iff_ne.2 hn7
 have e8 : (n.f0.toList == ([114, 111, 111, 116] : List UInt8)) = false := beq_eq_false_iff_ne.2 hn8
 have e9 : (n.f0.toList == ([118, 111, 108, 117, 109, 101] : List UInt8)) = false := beq_eq_false_iff_ne.2 hn9
 have e10 : (n.f0.toList == ([101, 120, 112, 111, 114, 116] : List UInt8)) = false := beq_eq_false_iff_ne.2 hn10
 clear hn0 hn1 hn2 hn3 hn4 hn5 hn6 hn7 hn8 hn9 hn10
 have HI := Aside0.mk hI
 have HS0 := Aside0.mk hI.start
 have HN2 := Aside0.mk hn2
 have HLN := Aside0.mk hlen
 have HIH := Aside0.mk ih
 have HT := Aside0.mk h
 have HL4 := Aside0.mk hl4
 clear hI hn2 hlen ih h hl4
 have hmf : ∀ (fn : Fn) (first cap : Array Value) (w : World), (Instr.makeFunc fn first cap).run Tryd.prog w = .ok (.func fn first cap) w := fun _ _ _ _ => rfl
 have hu25 := Tryd.underlying25
 have hu9 := Tryd.underlying9
 have hu69 := Tryd.underlying69
 have eg : Enters Tryd.prog 50 := enters_of Tryd.func50 (by kernel_rfl) rfl
 unfold Enters at eg
 unfold xBg
 go_enter Tryd.func22, Tryd.ntmps22
 go_upto_region 1 with (fail)
 generalize World.alloc (World.alloc w _) _ = W0 at *
 generalize hq_ : w.heap.size + 1 = q at *
 generalize w.heap.size = p at *
 clear hq_
 have HS := HS0
 clear HS0
 have p0 := (xAb HS.out.pb 0).trans rfl
 obtain ⟨q0, q1, q2, q3, q4⟩ := ey5 HS.out.qb
 have HSP := Aside0.mk hs
 clear hs
 have HP1 := Aside0.mk (HS.out.put [n.f0, (⟨#[40]⟩ : ByteArray)] #[.string n.f0, .string (⟨#[40]⟩ : ByteArray)] 2 rfl rfl (by have h1 := HLN.out; rw [HT.out] at h1; simp [catB] at h1 ⊢; omega) (by decide))
 go_upto_region 18 with (go_at_fn 50; (with_reducible refine HP1.out.mono ?_); rintro e w1 ⟨rfl, h1⟩; have H1 := Aside0.mk h1; clear h1)
 clear HP1 HS
 clear p0 q0 q1 q2 q3 q4
 generalize hl_ : l ++ catB [n.f0, (⟨#[40]⟩ : ByteArray)] = l1 at H1
 have HL1 := Aside0.mk hl_
 clear hl_
 have p0 := (xAb H1.out.pb 0).trans rfl
 obtain ⟨q0, q1, q2, q3, q4⟩ := ey5 H1.out.qb
 go_wp2_with (fail)
 go_loopw [56] (fun i wr => ∃ j : Nat, j ≤ n.f4.length ∧ i = .int .i64 j ∧ Aside0 (SepS (xBw k) w0.heap.size b p q n A c l1 tx0 w wr j)) (fun i _ => n.f4.length - (intOf i).toNat)
 case atStart => exact ⟨0, Nat.zero_le _, rfl, ⟨[], tx0, by simpa using H1.out, HSP.out, rfl⟩⟩
 case round =>
  clear p0 q0 q1 q2 q3 q4
  clear H1
  obtain ⟨j, hj, rfl, HC⟩ := hrel
  obtain ⟨dn, u, hS, hu, hdu⟩ := HC.out
  have HS := Aside0.mk hS
  have HDU := Aside0.mk hdu
  clear hS hdu HC
  have HLT := Aside0.mk (show l1.length + tx0.length + 1 ≤ 1000000000 from by have h1 := HLN.out; rw [HT.out] at h1; rw [← HL1.out]; simp [catB] at h1 ⊢; omega)
  have p0 := (xAb HS.out.pb 0).trans rfl
  obtain ⟨q0, q1, q2, q3, q4⟩ := ey5 HS.out.qb
  by_cases hlt : j < n.f4.length
  ·skip
   obtain ⟨tx, u', htx, hu', hue⟩ := sep_inv hu hlt
   have HTX := Aside0.mk htx
   have HU := Aside0.mk hu'
   have HUE := Aside0.mk hue
   clear htx hu' hue hu
   obtain ⟨ad, A4, c4, hA, y0, y1, y2, y3, y4, hl4, hC4⟩ := xC3 HI.out.hC (j : Int) (by omega) (by omega)
   simp only [Int.toNat_natCast] at y0 y1 y2 y3 y4
   generalize hrd : xA2 n.f4 (j : Int) = x at *
   clear hrd
   have HL4x := Aside0.mk hl4
   have HC4x := Aside0.mk hC4
   clear hl4 hC4
   have hbd := HI.out.bel.trans HS.out.fr.1
   replace y0 := xAq hbd y0
   replace y1 := xAq hbd y1
   replace y2 := xAq hbd y2
   replace y3 := xAq hbd y3
   replace y4 := xAq hbd y4
   clear hbd
   subst hA
   have pl : (0 ≤ (j : Int)) = True := eq_true (by omega)
   have ql : ((j : Int) < (n.f4.length : Int)) = True := eq_true (by omega)
   have ql2 : (j < n.f4.length) = True := eq_true hlt
   have hl4 := HL4.out
   have hj6 : (j : Int) ≤ 1000000 := by omega
   go_upto_region 21 with (fail)
   generalize hW : World.alloc wr _ = W1
   have HS1 := Aside0.mk (show WrS w0.heap.size b p q n (some ad) c (l1 ++ dn) w W1 from by rw [← hW]; exact HS.out.alloc _)
   have NB := Aside0.mk (show W1.heap[wr.heap.size]? = some (.cells #[.string x.f0, .string x.f1, .int .i64 x.f2, .int .i64 x.f3, .slice A4 x.f4.length c4] 25 (0, 0)) from by rw [← hW]; exact xBn _ _)
   clear hW y0 y1 y2 y3 y4 pl ql ql2
   clear p0 q0 q1 q2 q3 q4
   by_cases hj0 : j = 0
   ·skip
    have d0 : decide ((j : Int) > 0) = false := decide_eq_false (by omega)
    have d0' : decide (0 < (j : Int)) = false := decide_eq_false (by omega)
    have d0n : decide (0 < j) = false := decide_eq_false (by omega)
    have HJ0 := Aside0.mk (show (if decide (j = 0) = true then ([] : List UInt8) else [44, 32]) = [] from by rw [if_pos (decide_eq_true hj0)])
    have HJZ := Aside0.mk hj0
    clear hj0
    have hcall := HIH.out w0 W1 b x A4 c4 (l1 ++ dn) tx ⟨HI.out.bel.trans HS1.out.fr.1, HS1.out.bld, HL4x.out, HC4x.out, HI.out.tab⟩ HTX.out (by have h1 := HLT.out; rw [← HDU.out, HUE.out, HJ0.out] at h1; simp at h1 ⊢; omega)
    unfold xBg at hcall
    have HCALL := Aside0.mk hcall
    clear hcall
    have p0 := (xAb HS1.out.pb 0).trans rfl
    obtain ⟨q0, q1, q2, q3, q4⟩ := ey5 HS1.out.qb
    obtain ⟨z0, z1, z2, z3, z4⟩ := ey5 NB.out
    go_wp2_with (go_at_call 22; (with_reducible refine HCALL.out.mono ?_); rintro e w2 ⟨rfl, h1, h2⟩; have H2 := Aside0.mk (HS1.out.call h1 h2); clear h1 h2)
    go_roundw
    case rel => exact ⟨j + 1, by omega, by go_num, ⟨dn ++ tx, u', by simpa [List.append_assoc] using H2.out, by rw [show decide (j + 1 = 0) = false by simp]; exact HU.out, by rw [← HDU.out, HUE.out, HJ0.out]; simp [List.append_assoc]⟩⟩
    case measure => simp [intOf]; omega
   have d0 : decide ((j : Int) > 0) = true := decide_eq_true (by omega)
   have d0' : decide (0 < (j : Int)) = true := decide_eq_true (by omega)
   have d0n : decide (0 < j) = true := decide_eq_true (by omega)
   have HJ0 := Aside0.mk (show (if decide (j = 0) = true then ([] : List UInt8) else [44, 32]) = [44, 32] from by rw [if_neg (by simpa using hj0)])
   clear hj0
   have p0 := (xAb HS1.out.pb 0).trans rfl
   obtain ⟨q0, q1, q2, q3, q4⟩ := ey5 HS1.out.qb
   have HP2 := Aside0.mk (HS1.out.put2 [(⟨#[44, 32]⟩ : ByteArray)] #[.string (⟨#[44, 32]⟩ : ByteArray)] 1 rfl rfl (by have h1 := HLT.out; rw [← HDU.out, HUE.out, HJ0.out] at h1; simp [catB] at h1 ⊢; omega) (by decide))
   have NBZ := Aside0.mk (fun (w' : World) (h : Fr w0.heap.size b W1 w') => h.blk NB.out (fun e => by obtain ⟨cs, hc⟩ := HS1.out.bld.typ; exact xDw NB.out hc (by decide) e) (by decide))
   go_upto_region 23 with (go_at_fn 50; (with_reducible refine HP2.out.mono ?_); rintro e w1 ⟨rfl, h1, hf1⟩; have H1 := Aside0.mk h1; have NB1 := Aside0.mk (NBZ.out _ hf1); clear h1 hf1)
   clear NB NBZ
   have NB := NB1
   clear NB1
   clear p0 q0 q1 q2 q3 q4
   have H1b := Aside0.mk (show WrS w0.heap.size b p q n (some ad) c (l1 ++ (dn ++ [44, 32])) w w1 from by have h1 := H1.out; simpa [catB, List.append_assoc] using h1)
   clear H1
   have hcall := HIH.out w0 w1 b x A4 c4 (l1 ++ (dn ++ [44, 32])) tx ⟨HI.out.bel.trans H1b.out.fr.1, H1b.out.bld, HL4x.out, HC4x.out, HI.out.tab⟩ HTX.out (by have h1 := HLT.out; rw [← HDU.out, HUE.out, HJ0.out] at h1; simp at h1 ⊢; omega)
   unfold xBg at hcall
   have HCALL := Aside0.mk hcall
   clear hcall
   have p0 := (xAb H1b.out.pb 0).trans rfl
   obtain ⟨q0, q1, q2, q3, q4⟩ := ey5 H1b.out.qb
   obtain ⟨z0, z1, z2, z3, z4⟩ := ey5 NB.out
   go_wp2_with (go_at_call 22; (with_reducible refine HCALL.out.mono ?_); rintro e w2 ⟨rfl, h1, h2⟩; have H2 := Aside0.mk (H1b.out.call h1 h2); clear h1 h2)
   go_roundw
   case rel => exact ⟨j + 1, by omega, by go_num, ⟨dn ++ [44, 32] ++ tx, u', by simpa [List.append_assoc] using H2.out, by rw [show decide (j + 1 = 0) = false by simp]; exact HU.out, by rw [← HDU.out, HUE.out, HJ0.out]; simp [List.append_assoc]⟩⟩
   case measure => simp [intOf]; omega
  have hje : j = n.f4.length := by omega
  subst hje
  rw [List.drop_eq_nil_of_le (Nat.le_refl _)] at hu
  cases hu
  have h2 := HDU.out
  rw [List.append_nil] at h2
  have HS9 := Aside0.mk (show WrS w0.heap.size b p q n A c (l1 ++ tx0) w wr from by rw [← h2]; exact HS.out)
  clear h2
  have HP9 := Aside0.mk (HS9.out.put [(⟨#[41]⟩ : ByteArray)] #[.string (⟨#[41]⟩ : ByteArray)] 1 rfl rfl (by have h1 := HLT.out; simp [catB] at h1 ⊢; omega) (by decide))
  go_wp2_with (go_at_fn 50; (with_reducible refine HP9.out.mono ?_); rintro e w1 ⟨rfl, h1⟩; have H9 := Aside0.mk h1; clear h1)
  refine bodyPost_end (results_none rfl _ _ _) rfl ?_
  have h1 := H9.out.end_
  rw [HT.out]
  rw [← HL1.out] at h1
  simpa [catB, List.append_assoc] using h1
end Go.Proofs.YtknbfhhmjbnemaaDoor.P
end
section
namespace Go.Proofs.YtknbfhhmjbnemaaDoor.P
open Go.RowKit Go.Proofs.YtknbfhhmjbnemaaDoorW.PrintWords Go.Proofs.YtknbfhhmjbnemaaDoorW.PrintLast Go.Proofs.YtknbfhhmjbnemaaDoorW.PrintMore
attribute [local go_sem] xB9 xBe

/-! ### xBb: function 51 -/
def xBb.f (k : Nat) (a0 : ByteArray) : Option (Bool) := (xB4.f k a0).bind fun bt139 => (if bt139.2.1 = 0 then (if (bt139.1.length : Int) = 1 then (if 0 < (bt139.1.length : Int) then (if ((xB8 bt139.1 0).f0) = 0 then (if ((xB8 bt139.1 0).f1).toList = a0.toList then ((xC0.f a0).bind fun t146 => (some (!t146))) else (some false)) else (some false)) else (none)) else (some false)) else (some false))
theorem xBb.mono : ∀ a0 k, LeO (xBb.f k a0) (xBb.f (k + 1) a0) := by
 intro a0 k
 unfold xBb.f
 repeat' first
   | (with_reducible exact xB4.mono _ _)
   | (with_reducible exact LeO.refl _)
   | (with_reducible exact LeO.none _)
   | (with_reducible refine LeO.ite ?_ ?_)
   | (with_reducible refine LeO.bind ?_ (fun _ => ?_))
set_option maxHeartbeats 8000000 in
set_option maxRecDepth 100000 in
theorem xBb.calls (k : Nat) (a0 : ByteArray) (r : Bool) (w : World) (h : xBb.f k a0 = some r) (m_ : Int) (hm_ : w.cell? ⟨0, 0, none⟩ = some (.int .i64 m_)) :
  Calls Tryd.prog 51 #[.string a0] w fun e w' => e = .returned (.bool r) ∧ Below w.heap.size w w' := by
 have hmA_ := Aside0.mk hm_
 clear hm_
 have HB := Aside0.mk (Below.refl w.heap.size w)
 have H : ((xB4.f k a0).bind fun bt139 => (if bt139.2.1 = 0 then (if (bt139.1.length : Int) = 1 then (if 0 < (bt139.1.length : Int) then (if ((xB8 bt139.1 0).f0) = 0 then (if ((xB8 bt139.1 0).f1).toList = a0.toList then ((xC0.f a0).bind fun t146 => (some (!t146))) else (some false)) else (some false)) else (none)) else (some false)) else (some false))) = some r := h
 clear h
 replace H := Option.bind_eq_some_iff.mp H
 obtain ⟨⟨t139, t140, t141⟩, A20, H⟩ := H
 replace H : (if t140 = 0 then (if (t139.length : Int) = 1 then (if 0 < (t139.length : Int) then (if ((xB8 t139 0).f0) = 0 then (if ((xB8 t139 0).f1).toList = a0.toList then ((xC0.f a0).bind fun t146 => (some (!t146))) else (some false)) else (some false)) else (none)) else (some false)) else (some false)) = some r := H
 have A2 := Aside0.mk A20
 clear A20
 by_cases c3 : t140 = 0
 ·rw [if_pos c3] at H
  have c3b0 : (t140 == 0) = true := beq_iff_eq.mpr c3
  have c3b1 : (t140 != 0) = false := bne_eq_false_iff_eq.mpr c3
  clear c3
  by_cases c4 : (t139.length : Int) = 1
  ·rw [if_pos c4] at H
   have c4b0 : ((t139.length : Int) == 1) = true := beq_iff_eq.mpr c4
   have c4b1 : ((t139.length : Int) != 1) = false := bne_eq_false_iff_eq.mpr c4
   clear c4
   by_cases c5 : 0 < (t139.length : Int)
   ·rw [if_pos c5] at H
    have c5b0 : decide (0 < (t139.length : Int)) = true := decide_eq_true c5
    have c5b1 : decide (0 < t139.length) = true := decide_eq_true (by omega)
    clear c5
    by_cases c6 : ((xB8 t139 0).f0) = 0
    ·rw [if_pos c6] at H
     have c6b0 : (((xB8 t139 0).f0) == 0) = true := beq_iff_eq.mpr c6
     have c6b1 : (((xB8 t139 0).f0) != 0) = false := bne_eq_false_iff_eq.mpr c6
     clear c6
     by_cases c7 : ((xB8 t139 0).f1).toList = a0.toList
     ·rw [if_pos c7] at H
      have c7b0 : (((xB8 t139 0).f1).toList == a0.toList) = true := beq_iff_eq.mpr c7
      have c7b1 : (((xB8 t139 0).f1).toList != a0.toList) = false := bne_eq_false_iff_eq.mpr c7
      clear c7
      replace H := Option.bind_eq_some_iff.mp H
      obtain ⟨t146, A80, H⟩ := H
      replace H : (some (!t146)) = some r := H
      have A8 := Aside0.mk A80
      clear A80
      obtain rfl := Option.some.inj H
      go_enter Tryd.func51, Tryd.ntmps51
      go_wp2_with (first | ((with_reducible refine xAj (f := 17) rfl ?_); refine xB6 (some 8) rfl rfl Tryd.func17 (by kernel_rfl) rfl #[.string a0] rfl (by (try simp only [List.map_toArray, List.map_cons, List.map_nil]); first | done | rfl | (simp only [List.length_drop, List.length_take]; rfl)) ?_; (with_reducible refine (xB4.calls k a0 t139 t140 t141 _ A2.out).mono ?_); rintro e w9 ⟨v142, rfl, ho0, hb⟩; refine ⟨_, rfl, ?_⟩; have n0_ := Aside0.mk (Kd.R_lower ho0 (xAs (by repeat (first | (with_reducible first | exact HB.out | apply xA1 | apply xA0 | apply below_drew1) | exact HB.out)))); have n1_ := Aside0.mk (xAi (by repeat (first | (with_reducible first | exact HB.out | apply xA1 | apply xA0 | apply below_drew1) | exact HB.out)) hb); clear HB; have HO143 := n0_; have HB := n1_; clear n0_ n1_; (try clear hb); (try clear hb2); (try clear hk); (try clear hi); (try clear ho0); obtain ⟨Ao10, co10, eo10⟩ := Kd.R_slice HO143.out; subst eo10; have p144 : 0 ≤ (0 : Int) := (by omega); have q144 : 0 < (t139.length : Int) := of_decide_eq_true (by first | (with_reducible assumption) | assumption); obtain ⟨ad144, e144, hx144_0, hx144_1, hx144_2, hx144_3⟩ := xCz (Kd.R_reads' HO143.out).2.2 0 p144 q144; cases e144; have qi144 : (0 < t139.length) = True := eq_true (by omega); (try rw [show ((0 : Int)).toNat = 0 from rfl] at hx144_0); (try rw [show 0 * 4 = 0 from rfl] at hx144_0); (try rw [Addr.add_zero'] at hx144_0); (try rw [show ((0 : Int)).toNat = 0 from rfl] at hx144_1); (try rw [show 0 * 4 = 0 from rfl] at hx144_1); (try rw [Addr.add_zero'] at hx144_1); (try rw [show ((0 : Int)).toNat = 0 from rfl] at hx144_2); (try rw [show 0 * 4 = 0 from rfl] at hx144_2); (try rw [Addr.add_zero'] at hx144_2); (try rw [show ((0 : Int)).toNat = 0 from rfl] at hx144_3); (try rw [show 0 * 4 = 0 from rfl] at hx144_3); (try rw [Addr.add_zero'] at hx144_3); replace p144 := eq_true p144; replace q144 := eq_true q144; have p145 : 0 ≤ (0 : Int) := (by omega); have q145 : 0 < (t139.length : Int) := of_decide_eq_true (by first | (with_reducible assumption) | assumption); obtain ⟨ad145, e145, hx145_0, hx145_1, hx145_2, hx145_3⟩ := xCz (Kd.R_reads' HO143.out).2.2 0 p145 q145; obtain rfl : ad144 = ad145 := (by injection e145); have qi145 : (0 < t139.length) = True := eq_true (by omega); (try rw [show ((0 : Int)).toNat = 0 from rfl] at hx145_0); (try rw [show 0 * 4 = 0 from rfl] at hx145_0); (try rw [Addr.add_zero'] at hx145_0); (try rw [show ((0 : Int)).toNat = 0 from rfl] at hx145_1); (try rw [show 0 * 4 = 0 from rfl] at hx145_1); (try rw [Addr.add_zero'] at hx145_1); (try rw [show ((0 : Int)).toNat = 0 from rfl] at hx145_2); (try rw [show 0 * 4 = 0 from rfl] at hx145_2); (try rw [Addr.add_zero'] at hx145_2); (try rw [show ((0 : Int)).toNat = 0 from rfl] at hx145_3); (try rw [show 0 * 4 = 0 from rfl] at hx145_3); (try rw [Addr.add_zero'] at hx145_3); replace p145 := eq_true p145; replace q145 := eq_true q145) | (go_at_call 68; (with_reducible refine (xC0.calls a0 t146 _ A8.out m_ (by first | (with_reducible exact hmA_.out) | exact xC4 hmA_.out (by repeat (first | (with_reducible first | exact HB.out | apply xA1 | apply xA0 | apply below_drew1) | exact HB.out)) | (repeat (first | exact hmA_.out | refine xBu ?_ | refine mlen_drew ?_)))).mono ?_); rintro e w' ⟨rfl, ⟨nd, rfl⟩⟩))
      go_ret
      exact ⟨by first | rfl | (simp <;> rfl) | (simp [*] <;> rfl), by repeat (first | (with_reducible first | exact HB.out | apply xA1 | apply xA0 | apply below_drew1) | exact HB.out)⟩
     ·rw [if_neg c7] at H
      have c7b0 : (((xB8 t139 0).f1).toList == a0.toList) = false := beq_eq_false_iff_ne.mpr c7
      have c7b1 : (((xB8 t139 0).f1).toList != a0.toList) = true := bne_iff_ne.mpr c7
      obtain rfl := Option.some.inj H
      go_enter Tryd.func51, Tryd.ntmps51
      go_wp2_with (first | ((with_reducible refine xAj (f := 17) rfl ?_); refine xB6 (some 8) rfl rfl Tryd.func17 (by kernel_rfl) rfl #[.string a0] rfl (by (try simp only [List.map_toArray, List.map_cons, List.map_nil]); first | done | rfl | (simp only [List.length_drop, List.length_take]; rfl)) ?_; (with_reducible refine (xB4.calls k a0 t139 t140 t141 _ A2.out).mono ?_); rintro e w11 ⟨v142, rfl, ho0, hb⟩; refine ⟨_, rfl, ?_⟩; have n0_ := Aside0.mk (Kd.R_lower ho0 (xAs (by repeat (first | (with_reducible first | exact HB.out | apply xA1 | apply xA0 | apply below_drew1) | exact HB.out)))); have n1_ := Aside0.mk (xAi (by repeat (first | (with_reducible first | exact HB.out | apply xA1 | apply xA0 | apply below_drew1) | exact HB.out)) hb); clear HB; have HO143 := n0_; have HB := n1_; clear n0_ n1_; (try clear hb); (try clear hb2); (try clear hk); (try clear hi); (try clear ho0); obtain ⟨Ao12, co12, eo12⟩ := Kd.R_slice HO143.out; subst eo12; have p144 : 0 ≤ (0 : Int) := (by omega); have q144 : 0 < (t139.length : Int) := of_decide_eq_true (by first | (with_reducible assumption) | assumption); obtain ⟨ad144, e144, hx144_0, hx144_1, hx144_2, hx144_3⟩ := xCz (Kd.R_reads' HO143.out).2.2 0 p144 q144; cases e144; have qi144 : (0 < t139.length) = True := eq_true (by omega); (try rw [show ((0 : Int)).toNat = 0 from rfl] at hx144_0); (try rw [show 0 * 4 = 0 from rfl] at hx144_0); (try rw [Addr.add_zero'] at hx144_0); (try rw [show ((0 : Int)).toNat = 0 from rfl] at hx144_1); (try rw [show 0 * 4 = 0 from rfl] at hx144_1); (try rw [Addr.add_zero'] at hx144_1); (try rw [show ((0 : Int)).toNat = 0 from rfl] at hx144_2); (try rw [show 0 * 4 = 0 from rfl] at hx144_2); (try rw [Addr.add_zero'] at hx144_2); (try rw [show ((0 : Int)).toNat = 0 from rfl] at hx144_3); (try rw [show 0 * 4 = 0 from rfl] at hx144_3); (try rw [Addr.add_zero'] at hx144_3); replace p144 := eq_true p144; replace q144 := eq_true q144; have p145 : 0 ≤ (0 : Int) := (by omega); have q145 : 0 < (t139.length : Int) := of_decide_eq_true (by first | (with_reducible assumption) | assumption); obtain ⟨ad145, e145, hx145_0, hx145_1, hx145_2, hx145_3⟩ := xCz (Kd.R_reads' HO143.out).2.2 0 p145 q145; obtain rfl : ad144 = ad145 := (by injection e145); have qi145 : (0 < t139.length) = True := eq_true (by omega); (try rw [show ((0 : Int)).toNat = 0 from rfl] at hx145_0); (try rw [show 0 * 4 = 0 from rfl] at hx145_0); (try rw [Addr.add_zero'] at hx145_0); (try rw [show ((0 : Int)).toNat = 0 from rfl] at hx145_1); (try rw [show 0 * 4 = 0 from rfl] at hx145_1); (try rw [Addr.add_zero'] at hx145_1); (try rw [show ((0 : Int)).toNat = 0 from rfl] at hx145_2); (try rw [show 0 * 4 = 0 from rfl] at hx145_2); (try rw [Addr.add_zero'] at hx145_2); (try rw [show ((0 : Int)).toNat = 0 from rfl] at hx145_3); (try rw [show 0 * 4 = 0 from rfl] at hx145_3); (try rw [Addr.add_zero'] at hx145_3); replace p145 := eq_true p145; replace q145 := eq_true q145))
      go_ret
      exact ⟨by first | rfl | (simp <;> rfl) | (simp [*] <;> rfl), by repeat (first | (with_reducible first | exact HB.out | apply xA1 | apply xA0 | apply below_drew1) | exact HB.out)⟩
    ·rw [if_neg c6] at H
     have c6b0 : (((xB8 t139 0).f0) == 0) = false := beq_eq_false_iff_ne.mpr c6
     have c6b1 : (((xB8 t139 0).f0) != 0) = true := bne_iff_ne.mpr c6
     obtain rfl := Option.some.inj H
     go_enter Tryd.func51, Tryd.ntmps51
     go_wp2_with (first | ((with_reducible refine xAj (f := 17) rfl ?_); refine xB6 (some 8) rfl rfl Tryd.func17 (by kernel_rfl) rfl #[.string a0] rfl (by (try simp only [List.map_toArray, List.map_cons, List.map_nil]); first | done | rfl | (simp only [List.length_drop, List.length_take]; rfl)) ?_; (with_reducible refine (xB4.calls k a0 t139 t140 t141 _ A2.out).mono ?_); rintro e w13 ⟨v142, rfl, ho0, hb⟩; refine ⟨_, rfl, ?_⟩; have n0_ := Aside0.mk (Kd.R_lower ho0 (xAs (by repeat (first | (with_reducible first | exact HB.out | apply xA1 | apply xA0 | apply below_drew1) | exact HB.out)))); have n1_ := Aside0.mk (xAi (by repeat (first | (with_reducible first | exact HB.out | apply xA1 | apply xA0 | apply below_drew1) | exact HB.out)) hb); clear HB; have HO143 := n0_; have HB := n1_; clear n0_ n1_; (try clear hb); (try clear hb2); (try clear hk); (try clear hi); (try clear ho0); obtain ⟨Ao14, co14, eo14⟩ := Kd.R_slice HO143.out; subst eo14; have p144 : 0 ≤ (0 : Int) := (by omega); have q144 : 0 < (t139.length : Int) := of_decide_eq_true (by first | (with_reducible assumption) | assumption); obtain ⟨ad144, e144, hx144_0, hx144_1, hx144_2, hx144_3⟩ := xCz (Kd.R_reads' HO143.out).2.2 0 p144 q144; cases e144; have qi144 : (0 < t139.length) = True := eq_true (by omega); (try rw [show ((0 : Int)).toNat = 0 from rfl] at hx144_0); (try rw [show 0 * 4 = 0 from rfl] at hx144_0); (try rw [Addr.add_zero'] at hx144_0); (try rw [show ((0 : Int)).toNat = 0 from rfl] at hx144_1); (try rw [show 0 * 4 = 0 from rfl] at hx144_1); (try rw [Addr.add_zero'] at hx144_1); (try rw [show ((0 : Int)).toNat = 0 from rfl] at hx144_2); (try rw [show 0 * 4 = 0 from rfl] at hx144_2); (try rw [Addr.add_zero'] at hx144_2); (try rw [show ((0 : Int)).toNat = 0 from rfl] at hx144_3); (try rw [show 0 * 4 = 0 from rfl] at hx144_3); (try rw [Addr.add_zero'] at hx144_3); replace p144 := eq_true p144; replace q144 := eq_true q144))
     go_ret
     exact ⟨by first | rfl | (simp <;> rfl) | (simp [*] <;> rfl), by repeat (first | (with_reducible first | exact HB.out | apply xA1 | apply xA0 | apply below_drew1) | exact HB.out)⟩
   ·rw [if_neg c5] at H
    exact absurd H (by simp)
  ·rw [if_neg c4] at H
   have c4b0 : ((t139.length : Int) == 1) = false := beq_eq_false_iff_ne.mpr c4
   have c4b1 : ((t139.length : Int) != 1) = true := bne_iff_ne.mpr c4
   obtain rfl := Option.some.inj H
   go_enter Tryd.func51, Tryd.ntmps51
   go_wp2_with (first | ((with_reducible refine xAj (f := 17) rfl ?_); refine xB6 (some 8) rfl rfl Tryd.func17 (by kernel_rfl) rfl #[.string a0] rfl (by (try simp only [List.map_toArray, List.map_cons, List.map_nil]); first | done | rfl | (simp only [List.length_drop, List.length_take]; rfl)) ?_; (with_reducible refine (xB4.calls k a0 t139 t140 t141 _ A2.out).mono ?_); rintro e w15 ⟨v142, rfl, ho0, hb⟩; refine ⟨_, rfl, ?_⟩; have n0_ := Aside0.mk (Kd.R_lower ho0 (xAs (by repeat (first | (with_reducible first | exact HB.out | apply xA1 | apply xA0 | apply below_drew1) | exact HB.out)))); have n1_ := Aside0.mk (xAi (by repeat (first | (with_reducible first | exact HB.out | apply xA1 | apply xA0 | apply below_drew1) | exact HB.out)) hb); clear HB; have HO143 := n0_; have HB := n1_; clear n0_ n1_; (try clear hb); (try clear hb2); (try clear hk); (try clear hi); (try clear ho0); obtain ⟨Ao16, co16, eo16⟩ := Kd.R_slice HO143.out; subst eo16))
   go_ret
   exact ⟨by first | rfl | (simp <;> rfl) | (simp [*] <;> rfl), by repeat (first | (with_reducible first | exact HB.out | apply xA1 | apply xA0 | apply below_drew1) | exact HB.out)⟩
 ·rw [if_neg c3] at H
  have c3b0 : (t140 == 0) = false := beq_eq_false_iff_ne.mpr c3
  have c3b1 : (t140 != 0) = true := bne_iff_ne.mpr c3
  obtain rfl := Option.some.inj H
  go_enter Tryd.func51, Tryd.ntmps51
  go_wp2_with (first | ((with_reducible refine xAj (f := 17) rfl ?_); refine xB6 (some 8) rfl rfl Tryd.func17 (by kernel_rfl) rfl #[.string a0] rfl (by (try simp only [List.map_toArray, List.map_cons, List.map_nil]); first | done | rfl | (simp only [List.length_drop, List.length_take]; rfl)) ?_; (with_reducible refine (xB4.calls k a0 t139 t140 t141 _ A2.out).mono ?_); rintro e w17 ⟨v142, rfl, ho0, hb⟩; refine ⟨_, rfl, ?_⟩; have n0_ := Aside0.mk (Kd.R_lower ho0 (xAs (by repeat (first | (with_reducible first | exact HB.out | apply xA1 | apply xA0 | apply below_drew1) | exact HB.out)))); have n1_ := Aside0.mk (xAi (by repeat (first | (with_reducible first | exact HB.out | apply xA1 | apply xA0 | apply below_drew1) | exact HB.out)) hb); clear HB; have HO143 := n0_; have HB := n1_; clear n0_ n1_; (try clear hb); (try clear hb2); (try clear hk); (try clear hi); (try clear ho0)))
  go_ret
  exact ⟨by first | rfl | (simp <;> rfl) | (simp [*] <;> rfl), by repeat (first | (with_reducible first | exact HB.out | apply xA1 | apply xA0 | apply below_drew1) | exact HB.out)⟩

end Go.Proofs.YtknbfhhmjbnemaaDoor.P
end
section
namespace Go.Proofs.YtknbfhhmjbnemaaDoor.P
open Go.RowKit Go.Proofs.YtknbfhhmjbnemaaDoorW.PrintWords Go.Proofs.YtknbfhhmjbnemaaDoorW.PrintLast Go.Proofs.YtknbfhhmjbnemaaDoorW.PrintMore
attribute [local go_sem] xB9 xBe

/-! ### xBt: function 52 -/
def xBt.f (a0 : Int) : Option (Bool) := if a0 ≥ 0 then (some (decide (a0 ≤ 999999999))) else (some false)
set_option maxHeartbeats 8000000 in
set_option maxRecDepth 100000 in
theorem xBt.calls (a0 : Int) (r : Bool) (w : World) (h : xBt.f a0 = some r) :
  Calls Tryd.prog 52 #[.int .i64 a0] w fun e w' => e = .returned (.bool r) ∧ Drawn0 w w' := by
 have H : (if a0 ≥ 0 then (some (decide (a0 ≤ 999999999))) else (some false)) = some r := h
 clear h
 by_cases c2 : a0 ≥ 0
 ·rw [if_pos c2] at H
  have c2b0 : decide (0 ≤ a0) = true := decide_eq_true c2
  clear c2
  obtain rfl := Option.some.inj H
  go_enter Tryd.func52, Tryd.ntmps52
  go_wp2
  go_ret
  exact ⟨by first | rfl | (simp; done) | (simp [*]; done), by repeat (first | exact Drawn0.refl _ | apply Drawn0.step)⟩
 ·rw [if_neg c2] at H
  have c2b0 : decide (0 ≤ a0) = false := decide_eq_false c2
  clear c2
  obtain rfl := Option.some.inj H
  go_enter Tryd.func52, Tryd.ntmps52
  go_wp2
  go_ret
  exact ⟨by first | rfl | (simp; done) | (simp [*]; done), by repeat (first | exact Drawn0.refl _ | apply Drawn0.step)⟩

end Go.Proofs.YtknbfhhmjbnemaaDoor.P
end
section
namespace Go.Proofs.YtknbfhhmjbnemaaDoor.P
open Go.RowKit Go.Proofs.YtknbfhhmjbnemaaDoorW.PrintWords Go.Proofs.YtknbfhhmjbnemaaDoorW.PrintLast Go.Proofs.YtknbfhhmjbnemaaDoorW.PrintMore
attribute [local go_sem] xB9 xBe

/-! ### xAu: function 81 -/
def xAu.j0 : Nat → ByteArray → Bool → ByteArray → ByteArray → Int → Int → List (S25) → Option (Bool)
 | 0, _, _, _, _, _, _, _ => none
 | k + 1, x1, x14, x155000, x155001, x155002, x155003, x155004 => if x14 = true then (some false) else (if x1.toList = ([110, 117, 109] : List UInt8) then (if x155001.toList = ([] : List UInt8) then ((xBt.f x155002).bind fun t155 => (some t155)) else (some false)) else (if x155002 = 0 then ((xBb.f k x155001).bind fun t156 => (some t156)) else (some false)))
def xAu.f (k : Nat) (a0_0 : ByteArray) (a0_1 : ByteArray) (a0_2 : Int) (a0_3 : Int) (l0_4 : List (S25)) (a1 : ByteArray) : Option (Bool) := if a0_0.toList = a1.toList then (xAu.j0 k a1 (decide ((l0_4.length : Int) > 0)) a0_0 a0_1 a0_2 a0_3 l0_4) else (xAu.j0 k a1 true a0_0 a0_1 a0_2 a0_3 l0_4)
theorem xAu.mono_l : ∀ k, (∀ y0 y1 y2 y3 y4 y5 y6, LeO (xAu.j0 k y0 y1 y2 y3 y4 y5 y6) (xAu.j0 (k + 1) y0 y1 y2 y3 y4 y5 y6))
 | 0 => fun _ _ _ _ _ _ _ r h => by simp [xAu.j0] at h
 | k + 1 => by
  have ih0 := xAu.mono_l k
  ·intro y0 y1 y2 y3 y4 y5 y6
   unfold xAu.j0
   repeat' first
   | (with_reducible exact ih0 _ _ _ _ _ _ _)
   | (with_reducible exact xBb.mono _ _)
   | (with_reducible exact LeO.refl _)
   | (with_reducible exact LeO.none _)
   | (with_reducible refine LeO.ite ?_ ?_)
   | (with_reducible refine LeO.bind ?_ (fun _ => ?_))
theorem xAu.mono : ∀ a0 a1 a2 a3 a4 a5 k, LeO (xAu.f k a0 a1 a2 a3 a4 a5) (xAu.f (k + 1) a0 a1 a2 a3 a4 a5) := by
 intro a0 a1 a2 a3 a4 a5 k
 have ih0 := xAu.mono_l k
 unfold xAu.f
 repeat' first
   | (with_reducible exact ih0 _ _ _ _ _ _ _)
   | (with_reducible exact xBb.mono _ _)
   | (with_reducible exact LeO.refl _)
   | (with_reducible exact LeO.none _)
   | (with_reducible refine LeO.ite ?_ ?_)
   | (with_reducible refine LeO.bind ?_ (fun _ => ?_))
set_option maxHeartbeats 8000000 in
set_option maxRecDepth 100000 in
theorem xAu.calls (k : Nat) (a0_0 : ByteArray) (a0_1 : ByteArray) (a0_2 : Int) (a0_3 : Int) (A0_4 : Option Addr) (c0_4 : Nat) (l0_4 : List (S25)) (a1 : ByteArray) (r : Bool) (w : World) (hr0_4 : Kd.C k25 w A0_4 l0_4.length l0_4) (hc0_4 : l0_4.length ≤ c0_4) (h : xAu.f k a0_0 a0_1 a0_2 a0_3 l0_4 a1 = some r) (m_ : Int) (hm_ : w.cell? ⟨0, 0, none⟩ = some (.int .i64 m_)) :
  Calls Tryd.prog 81 #[.agg #[.string a0_0, .string a0_1, .int .i64 a0_2, .int .i64 a0_3, .slice A0_4 l0_4.length c0_4], .string a1] w fun e w' => e = .returned (.bool r) ∧ Below w.heap.size w w' := by
 have hmA_ := Aside0.mk hm_
 clear hm_
 have hu25 := Tryd.underlying25
 have HR0_4 := Aside0.mk hr0_4
 have HC0_4 := Aside0.mk hc0_4
 clear hr0_4 hc0_4
 have HB := Aside0.mk (Below.refl w.heap.size w)
 have H : (if a0_0.toList = a1.toList then (xAu.j0 k a1 (decide ((l0_4.length : Int) > 0)) a0_0 a0_1 a0_2 a0_3 l0_4) else (xAu.j0 k a1 true a0_0 a0_1 a0_2 a0_3 l0_4)) = some r := h
 clear h
 have HC3 := Aside0.mk H
 clear H
 go_enter Tryd.func81, Tryd.ntmps81
 go_upto_region 1 with (first | ((with_reducible refine xBq (N := 2) rfl ?_); (try (refine xCj (by rfl) ?_; dsimp only)); refine xBm ?hg (N := 2) ?hd (cs := #[.string a0_0, .string a0_1, .int .i64 a0_2, .int .i64 a0_3, .slice A0_4 l0_4.length c0_4]) (t := 25) ?hr ?_; (case hd => rfl); (case hg => rfl); (case hr => first | (go_simp; done) | (go_simp; rfl)); intro gb154 hg w4 hbox hb; have n0_ := Aside0.mk (xAi (by repeat (first | (with_reducible first | exact HB.out | apply xA1 | apply xA0 | apply below_drew1) | exact HB.out)) hb); have n1_ := Aside0.mk (hbox); have n2_ := Aside0.mk ((by rw [hg]; exact (xAs (by repeat (first | (with_reducible first | exact HB.out | apply xA1 | apply xA0 | apply below_drew1) | exact HB.out))) : w.heap.size ≤ gb154)); have n3_ := Aside0.mk ((by rw [hg]; exact (xAs (by repeat (first | (with_reducible first | exact HB.out | apply xA1 | apply xA0 | apply below_drew1) | exact HB.out))) : w.heap.size ≤ gb154)); clear HB; have HB := n0_; have BK154 := n1_; have GW154 := n2_; have GE154 := n3_; clear n0_ n1_ n2_ n3_; clear hb hbox hg))
 (try simp only [Act.put, List.setIfInBounds_toArray, List.set_cons_zero, List.set_cons_succ])
 go_cut [14] (fun v14 wc => ∃ (kq : Nat) (x14_2 : Bool), v14 = .bool x14_2 ∧ Aside0 (xAu.j0 kq a1 x14_2 a0_0 a0_1 a0_2 a0_3 l0_4 = some r) ∧ Aside0 (kq ≤ k) ∧ Aside0 (wc.heap[gb154]? = some (.cells #[.string a0_0, .string a0_1, .int .i64 a0_2, .int .i64 a0_3, (.slice A0_4 l0_4.length c0_4)] 25 (0, 0))) ∧ Aside0 (Below w.heap.size w wc))
 case first =>
  have H := HC3.out
  clear HC3
  by_cases c5 : a0_0.toList = a1.toList
  ·rw [if_pos c5] at H
   have c5b0 : (a0_0.toList == a1.toList) = true := beq_iff_eq.mpr c5
   have c5b1 : (a0_0.toList != a1.toList) = false := bne_eq_false_iff_eq.mpr c5
   clear c5
   (first | rw [c5b0] | (simp only [xB0, xB1]; rw [c5b0]) | skip)
   have H' := Aside0.mk H
   clear H
   obtain ⟨hcz6_0, hcz6_1, hcz6_2, hcz6_3, hcz6_4, hfz6_0, hfz6_1, hfz6_2, hfz6_3, hfz6_4⟩ := ex5 BK154.out
   go_wp2
   go_meet
   case rel => exact ⟨_, (decide ((l0_4.length : Int) > 0)), (by first | rfl | (simp; done) | (simp [*]; done)), H', ⟨by first | omega | exact Nat.le_refl _⟩, ⟨by (with_reducible repeat (first | refine xA5 ?_ _ | refine xA8 ?_ | refine xA4 ?_ _)); exact BK154.out⟩, ⟨by repeat (first | (with_reducible first | exact HB.out | apply xA1 | apply xA0 | apply below_drew1 | refine xA6 ?_ GE154.out) | exact HB.out)⟩⟩
  ·rw [if_neg c5] at H
   have c5b0 : (a0_0.toList == a1.toList) = false := beq_eq_false_iff_ne.mpr c5
   have c5b1 : (a0_0.toList != a1.toList) = true := bne_iff_ne.mpr c5
   (first | rw [c5b0] | (simp only [xB0, xB1]; rw [c5b0]) | skip)
   have H' := Aside0.mk H
   clear H
   obtain ⟨hcz7_0, hcz7_1, hcz7_2, hcz7_3, hcz7_4, hfz7_0, hfz7_1, hfz7_2, hfz7_3, hfz7_4⟩ := ex5 BK154.out
   go_wp2
   go_meet
   case rel => exact ⟨_, (true), (by first | rfl | (simp; done) | (simp [*]; done)), H', ⟨by first | omega | exact Nat.le_refl _⟩, ⟨by (with_reducible repeat (first | refine xA5 ?_ _ | refine xA8 ?_ | refine xA4 ?_ _)); exact BK154.out⟩, ⟨by repeat (first | (with_reducible first | exact HB.out | apply xA1 | apply xA0 | apply below_drew1 | refine xA6 ?_ GE154.out) | exact HB.out)⟩⟩
 case rest =>
  clear HC3
  try clear p2
  try clear c5
  try clear c5b0
  try clear c5b1
  try clear hcz6_0 hcz6_1 hcz6_2 hcz6_3 hcz6_4
  try clear hcz7_0 hcz7_1 hcz7_2 hcz7_3 hcz7_4
  try clear hfz6_0 hfz6_1 hfz6_2 hfz6_3 hfz6_4
  try clear hfz7_0 hfz7_1 hfz7_2 hfz7_3 hfz7_4
  obtain ⟨kq, x14_2, rfl, HA, HJ2, BK154, HB⟩ := hcut
  cases kq with
  | zero => exact absurd HA.out (by simp [xAu.j0])
  | succ kj2 =>
   have H := HA.out
   clear HA
   simp only [xAu.j0] at H
   by_cases c8 : x14_2 = true
   ·subst c8
    have H1 : (some false) = some r := by rw [if_pos rfl] at H; exact H
    clear H
    have H := H1
    clear H1
    obtain rfl := Option.some.inj H
    go_wp2
    go_ret
    exact ⟨by first | rfl | (simp <;> rfl) | (simp [*] <;> rfl), by repeat (first | (with_reducible first | exact HB.out | apply xA1 | apply xA0 | apply below_drew1 | refine xA6 ?_ GE154.out) | exact HB.out)⟩
   ·replace c8 := Bool.eq_false_iff.mpr c8
    subst c8
    have H1 : (if a1.toList = ([110, 117, 109] : List UInt8) then (if a0_1.toList = ([] : List UInt8) then ((xBt.f a0_2).bind fun t155 => (some t155)) else (some false)) else (if a0_2 = 0 then ((xBb.f kj2 a0_1).bind fun t156 => (some t156)) else (some false))) = some r := by rw [if_neg (show ¬ (false = true) by decide)] at H; exact H
    clear H
    have H := H1
    clear H1
    by_cases c9 : a1.toList = ([110, 117, 109] : List UInt8)
    ·rw [if_pos c9] at H
     have c9b0 : (a1.toList == ([110, 117, 109] : List UInt8)) = true := beq_iff_eq.mpr c9
     have c9b1 : (a1.toList != ([110, 117, 109] : List UInt8)) = false := bne_eq_false_iff_eq.mpr c9
     clear c9
     by_cases c10 : a0_1.toList = ([] : List UInt8)
     ·rw [if_pos c10] at H
      have c10b0 : (a0_1.toList == ([] : List UInt8)) = true := beq_iff_eq.mpr c10
      have c10b1 : (a0_1.toList != ([] : List UInt8)) = false := bne_eq_false_iff_eq.mpr c10
      clear c10
      replace H := Option.bind_eq_some_iff.mp H
      obtain ⟨t155, A110, H⟩ := H
      replace H : (some t155) = some r := H
      have A11 := Aside0.mk A110
      clear A110
      obtain rfl := Option.some.inj H
      obtain ⟨hcz12_0, hcz12_1, hcz12_2, hcz12_3, hcz12_4, hfz12_0, hfz12_1, hfz12_2, hfz12_3, hfz12_4⟩ := ex5 BK154.out
      go_wp2_with (first | (go_at_call 52; (with_reducible refine (xBt.calls a0_2 t155 _ A11.out).mono ?_); rintro e w' ⟨rfl, ⟨nd, rfl⟩⟩))
      go_ret
      exact ⟨by first | rfl | (simp <;> rfl) | (simp [*] <;> rfl), by repeat (first | (with_reducible first | exact HB.out | apply xA1 | apply xA0 | apply below_drew1 | refine xA6 ?_ GE154.out) | exact HB.out)⟩
     ·rw [if_neg c10] at H
      have c10b0 : (a0_1.toList == ([] : List UInt8)) = false := beq_eq_false_iff_ne.mpr c10
      have c10b1 : (a0_1.toList != ([] : List UInt8)) = true := bne_iff_ne.mpr c10
      obtain rfl := Option.some.inj H
      obtain ⟨hcz13_0, hcz13_1, hcz13_2, hcz13_3, hcz13_4, hfz13_0, hfz13_1, hfz13_2, hfz13_3, hfz13_4⟩ := ex5 BK154.out
      go_wp2
      go_ret
      exact ⟨by first | rfl | (simp <;> rfl) | (simp [*] <;> rfl), by repeat (first | (with_reducible first | exact HB.out | apply xA1 | apply xA0 | apply below_drew1 | refine xA6 ?_ GE154.out) | exact HB.out)⟩
    ·rw [if_neg c9] at H
     have c9b0 : (a1.toList == ([110, 117, 109] : List UInt8)) = false := beq_eq_false_iff_ne.mpr c9
     have c9b1 : (a1.toList != ([110, 117, 109] : List UInt8)) = true := bne_iff_ne.mpr c9
     by_cases c14 : a0_2 = 0
     ·rw [if_pos c14] at H
      have c14b0 : (a0_2 == 0) = true := beq_iff_eq.mpr c14
      have c14b1 : (a0_2 != 0) = false := bne_eq_false_iff_eq.mpr c14
      clear c14
      replace H := Option.bind_eq_some_iff.mp H
      obtain ⟨t156, A150, H⟩ := H
      replace H : (some t156) = some r := H
      have A15 := Aside0.mk A150
      clear A150
      obtain rfl := Option.some.inj H
      obtain ⟨hcz16_0, hcz16_1, hcz16_2, hcz16_3, hcz16_4, hfz16_0, hfz16_1, hfz16_2, hfz16_3, hfz16_4⟩ := ex5 BK154.out
      go_wp2_with (first | (go_at_call 51; (with_reducible refine (xBb.calls kj2 a0_1 t156 _ A15.out m_ (by first | (with_reducible exact hmA_.out) | exact xC4 hmA_.out (by repeat (first | (with_reducible first | exact HB.out | apply xA1 | apply xA0 | apply below_drew1 | refine xA6 ?_ GE154.out) | exact HB.out)) | (repeat (first | exact hmA_.out | refine xBu ?_ | refine mlen_drew ?_)))).mono ?_); rintro e w17 ⟨rfl, hb⟩; have n0_ := Aside0.mk (xAt (g := gb154) (o := .cells #[.string a0_0, .string a0_1, .int .i64 a0_2, .int .i64 a0_3, .slice A0_4 l0_4.length c0_4] 25 (0, 0)) (by (with_reducible repeat (first | refine xA5 ?_ _ | refine xA8 ?_ | refine xA4 ?_ _)); exact BK154.out) hb); have n1_ := Aside0.mk (xAi (by repeat (first | (with_reducible first | exact HB.out | apply xA1 | apply xA0 | apply below_drew1 | refine xA6 ?_ GE154.out) | exact HB.out)) hb); clear BK154; clear HB; have BK154 := n0_; have HB := n1_; clear n0_ n1_; (try clear hb); (try clear hb2); (try clear hk); (try clear hi)))
      go_ret
      exact ⟨by first | rfl | (simp <;> rfl) | (simp [*] <;> rfl), by repeat (first | (with_reducible first | exact HB.out | apply xA1 | apply xA0 | apply below_drew1 | refine xA6 ?_ GE154.out) | exact HB.out)⟩
     ·rw [if_neg c14] at H
      have c14b0 : (a0_2 == 0) = false := beq_eq_false_iff_ne.mpr c14
      have c14b1 : (a0_2 != 0) = true := bne_iff_ne.mpr c14
      obtain rfl := Option.some.inj H
      obtain ⟨hcz18_0, hcz18_1, hcz18_2, hcz18_3, hcz18_4, hfz18_0, hfz18_1, hfz18_2, hfz18_3, hfz18_4⟩ := ex5 BK154.out
      go_wp2
      go_ret
      exact ⟨by first | rfl | (simp <;> rfl) | (simp [*] <;> rfl), by repeat (first | (with_reducible first | exact HB.out | apply xA1 | apply xA0 | apply below_drew1 | refine xA6 ?_ GE154.out) | exact HB.out)⟩

end Go.Proofs.YtknbfhhmjbnemaaDoor.P
end
section
namespace Go.Proofs.YtknbfhhmjbnemaaDoor.P
open Go.RowKit Go.Proofs.YtknbfhhmjbnemaaDoorW.PrintWords Go.Proofs.YtknbfhhmjbnemaaDoorW.PrintLast Go.Proofs.YtknbfhhmjbnemaaDoorW.PrintMore
attribute [local go_sem] xB9 xBe

/-! ### xA7: function 54 -/
mutual
def xA7.j0 : Nat → Int → Bool → ByteArray → ByteArray → Int → Int → List (S25) → Option (Bool)
 | 0, _, _, _, _, _, _, _ => none
 | k + 1, x1, x14, x158000, x158001, x158002, x158003, x158004 => if x14 = true then (if x1 ≤ 12 then ((xAu.f k x158000 x158001 x158002 x158003 x158004 (⟨#[117, 115, 101]⟩ : ByteArray)).bind fun t158 => (some t158)) else (some false)) else (if x158002 = 0 then (if x158001.toList = ([] : List UInt8) then (xA7.j1 k x1 ((x158004.length : Int) == 0) x158000 x158001 x158002 x158003 x158004) else (xA7.j1 k x1 true x158000 x158001 x158002 x158003 x158004)) else (xA7.j1 k x1 true x158000 x158001 x158002 x158003 x158004))
def xA7.j1 : Nat → Int → Bool → ByteArray → ByteArray → Int → Int → List (S25) → Option (Bool)
 | 0, _, _, _, _, _, _, _ => none
 | k + 1, x1, x34, x158000, x158001, x158002, x158003, x158004 => if x34 = true then (some false) else (if x158000.toList = ([108, 105, 110, 101, 97, 114] : List UInt8) then (if (x158004.length : Int) = 3 then (if 1 < (x158004.length : Int) then ((xAu.f k ((xA2 x158004 1).f0) ((xA2 x158004 1).f1) ((xA2 x158004 1).f2) ((xA2 x158004 1).f3) ((xA2 x158004 1).f4) (⟨#[110, 117, 109]⟩ : ByteArray)).bind fun t160 => (if t160 = true then (if 2 < (x158004.length : Int) then ((xAu.f k ((xA2 x158004 2).f0) ((xA2 x158004 2).f1) ((xA2 x158004 2).f2) ((xA2 x158004 2).f3) ((xA2 x158004 2).f4) (⟨#[110, 117, 109]⟩ : ByteArray)).bind fun t162 => (xA7.j3 k x1 1 t162 x158000 x158001 x158002 x158003 x158004)) else (none)) else (xA7.j3 k x1 1 false x158000 x158001 x158002 x158003 x158004))) else (none)) else (xA7.j3 k x1 1 false x158000 x158001 x158002 x158003 x158004)) else (if x158000.toList = ([115, 110, 97, 112, 115, 104, 111, 116] : List UInt8) then (if (x158004.length : Int) = 3 then (if 2 < (x158004.length : Int) then ((xAu.f k ((xA2 x158004 2).f0) ((xA2 x158004 2).f1) ((xA2 x158004 2).f2) ((xA2 x158004 2).f3) ((xA2 x158004 2).f4) (⟨#[110, 117, 109]⟩ : ByteArray)).bind fun t164 => (xA7.j3 k x1 2 t164 x158000 x158001 x158002 x158003 x158004)) else (none)) else (xA7.j3 k x1 2 false x158000 x158001 x158002 x158003 x158004)) else (if x158000.toList = ([99, 114, 121, 112, 116] : List UInt8) then (xA7.j2 k x1 1 true x158000 (x158000.toList == ([99, 114, 121, 112, 116] : List UInt8)) x158000 x158001 x158002 x158003 x158004) else (if x158000.toList = ([105, 110, 116, 101, 103, 114, 105, 116, 121] : List UInt8) then (xA7.j2 k x1 1 true x158000 (x158000.toList == ([105, 110, 116, 101, 103, 114, 105, 116, 121] : List UInt8)) x158000 x158001 x158002 x158003 x158004) else (xA7.j2 k x1 1 true x158000 (x158000.toList == ([118, 101, 114, 105, 116, 121] : List UInt8)) x158000 x158001 x158002 x158003 x158004)))))
def xA7.j3 : Nat → Int → Int → Bool → ByteArray → ByteArray → Int → Int → List (S25) → Option (Bool)
 | 0, _, _, _, _, _, _, _, _ => none
 | k + 1, x1, x5, x6, x158000, x158001, x158002, x158003, x158004 => xA7.l0 k x1 x5 x6 0 x158000 x158001 x158002 x158003 x158004
def xA7.l0 : Nat → Int → Int → Bool → Int → ByteArray → ByteArray → Int → Int → List (S25) → Option (Bool)
 | 0, _, _, _, _, _, _, _, _, _ => none
 | k + 1, x1, x5, x6, x7, x158000, x158001, x158002, x158003, x158004 => if x6 = true then (if x7 < x5 then (if 0 ≤ x7 then (if x7 < (x158004.length : Int) then ((xA7.f k ((xA2 x158004 x7).f0) ((xA2 x158004 x7).f1) ((xA2 x158004 x7).f2) ((xA2 x158004 x7).f3) ((xA2 x158004 x7).f4) (wrap64 (x1 + 1))).bind fun t168 => (xA7.l0 k x1 x5 t168 (wrap64 (x7 + 1)) x158000 x158001 x158002 x158003 x158004)) else (none)) else (none)) else (some x6)) else (some x6)
def xA7.j2 : Nat → Int → Int → Bool → ByteArray → Bool → ByteArray → ByteArray → Int → Int → List (S25) → Option (Bool)
 | 0, _, _, _, _, _, _, _, _, _, _ => none
 | k + 1, x1, x5, x6, x36, x70, x158000, x158001, x158002, x158003, x158004 => if x70 = true then (if (x158004.length : Int) = 2 then (if 1 < (x158004.length : Int) then ((xAu.f k ((xA2 x158004 1).f0) ((xA2 x158004 1).f1) ((xA2 x158004 1).f2) ((xA2 x158004 1).f3) ((xA2 x158004 1).f4) (⟨#[110, 97, 109, 101]⟩ : ByteArray)).bind fun t166 => (xA7.j3 k x1 x5 t166 x158000 x158001 x158002 x158003 x158004)) else (none)) else (xA7.j3 k x1 x5 false x158000 x158001 x158002 x158003 x158004)) else (if x36.toList = ([99, 111, 110, 99, 97, 116] : List UInt8) then (xA7.j3 k x1 (x158004.length : Int) x6 x158000 x158001 x158002 x158003 x158004) else (if x36.toList = ([109, 105, 114, 114, 111, 114] : List UInt8) then (xA7.j3 k x1 (x158004.length : Int) x6 x158000 x158001 x158002 x158003 x158004) else (xA7.j3 k x1 x5 false x158000 x158001 x158002 x158003 x158004)))
def xA7.f : Nat → ByteArray → ByteArray → Int → Int → List (S25) → Int → Option (Bool)
 | 0, _, _, _, _, _, _ => none
 | k + 1, a0_0, a0_1, a0_2, a0_3, l0_4, a1 => if a1 > 12 then (xA7.j0 k a1 true a0_0 a0_1 a0_2 a0_3 l0_4) else (xA7.j0 k a1 (a0_0.toList == ([117, 115, 101] : List UInt8)) a0_0 a0_1 a0_2 a0_3 l0_4)
end
theorem xA7.mono_l : ∀ k, (∀ y0 y1 y2 y3 y4 y5, LeO (xA7.f k y0 y1 y2 y3 y4 y5) (xA7.f (k + 1) y0 y1 y2 y3 y4 y5)) ∧ (∀ y0 y1 y2 y3 y4 y5 y6, LeO (xA7.j0 k y0 y1 y2 y3 y4 y5 y6) (xA7.j0 (k + 1) y0 y1 y2 y3 y4 y5 y6)) ∧ (∀ y0 y1 y2 y3 y4 y5 y6, LeO (xA7.j1 k y0 y1 y2 y3 y4 y5 y6) (xA7.j1 (k + 1) y0 y1 y2 y3 y4 y5 y6)) ∧ (∀ y0 y1 y2 y3 y4 y5 y6 y7, LeO (xA7.j3 k y0 y1 y2 y3 y4 y5 y6 y7) (xA7.j3 (k + 1) y0 y1 y2 y3 y4 y5 y6 y7)) ∧ (∀ y0 y1 y2 y3 y4 y5 y6 y7 y8, LeO (xA7.l0 k y0 y1 y2 y3 y4 y5 y6 y7 y8) (xA7.l0 (k + 1) y0 y1 y2 y3 y4 y5 y6 y7 y8)) ∧ (∀ y0 y1 y2 y3 y4 y5 y6 y7 y8 y9, LeO (xA7.j2 k y0 y1 y2 y3 y4 y5 y6 y7 y8 y9) (xA7.j2 (k + 1) y0 y1 y2 y3 y4 y5 y6 y7 y8 y9))
 | 0 => ⟨fun _ _ _ _ _ _ r h => by simp [xA7.f] at h, fun _ _ _ _ _ _ _ r h => by simp [xA7.j0] at h, fun _ _ _ _ _ _ _ r h => by simp [xA7.j1] at h, fun _ _ _ _ _ _ _ _ r h => by simp [xA7.j3] at h, fun _ _ _ _ _ _ _ _ _ r h => by simp [xA7.l0] at h, fun _ _ _ _ _ _ _ _ _ _ r h => by simp [xA7.j2] at h⟩
 | k + 1 => by
  obtain ⟨ih0, ih1, ih2, ih3, ih4, ih5⟩ := xA7.mono_l k
  refine ⟨?_, ?_, ?_, ?_, ?_, ?_⟩
  ·intro y0 y1 y2 y3 y4 y5
   unfold xA7.f
   repeat' first
   | (with_reducible exact ih0 _ _ _ _ _ _)
   | (with_reducible exact ih1 _ _ _ _ _ _ _)
   | (with_reducible exact ih2 _ _ _ _ _ _ _)
   | (with_reducible exact ih3 _ _ _ _ _ _ _ _)
   | (with_reducible exact ih4 _ _ _ _ _ _ _ _ _)
   | (with_reducible exact ih5 _ _ _ _ _ _ _ _ _ _)
   | (with_reducible exact xAu.mono _ _ _ _ _ _ _)
   | (with_reducible exact LeO.refl _)
   | (with_reducible exact LeO.none _)
   | (with_reducible refine LeO.ite ?_ ?_)
   | (with_reducible refine LeO.bind ?_ (fun _ => ?_))
  ·intro y0 y1 y2 y3 y4 y5 y6
   unfold xA7.j0
   repeat' first
   | (with_reducible exact ih0 _ _ _ _ _ _)
   | (with_reducible exact ih1 _ _ _ _ _ _ _)
   | (with_reducible exact ih2 _ _ _ _ _ _ _)
   | (with_reducible exact ih3 _ _ _ _ _ _ _ _)
   | (with_reducible exact ih4 _ _ _ _ _ _ _ _ _)
   | (with_reducible exact ih5 _ _ _ _ _ _ _ _ _ _)
   | (with_reducible exact xAu.mono _ _ _ _ _ _ _)
   | (with_reducible exact LeO.refl _)
   | (with_reducible exact LeO.none _)
   | (with_reducible refine LeO.ite ?_ ?_)
   | (with_reducible refine LeO.bind ?_ (fun _ => ?_))
  ·intro y0 y1 y2 y3 y4 y5 y6
   unfold xA7.j1
   repeat' first
   | (with_reducible exact ih0 _ _ _ _ _ _)
   | (with_reducible exact ih1 _ _ _ _ _ _ _)
   | (with_reducible exact ih2 _ _ _ _ _ _ _)
   | (with_reducible exact ih3 _ _ _ _ _ _ _ _)
   | (with_reducible exact ih4 _ _ _ _ _ _ _ _ _)
   | (with_reducible exact ih5 _ _ _ _ _ _ _ _ _ _)
   | (with_reducible exact xAu.mono _ _ _ _ _ _ _)
   | (with_reducible exact LeO.refl _)
   | (with_reducible exact LeO.none _)
   | (with_reducible refine LeO.ite ?_ ?_)
   | (with_reducible refine LeO.bind ?_ (fun _ => ?_))
  ·intro y0 y1 y2 y3 y4 y5 y6 y7
   unfold xA7.j3
   repeat' first
   | (with_reducible exact ih0 _ _ _ _ _ _)
   | (with_reducible exact ih1 _ _ _ _ _ _ _)
   | (with_reducible exact ih2 _ _ _ _ _ _ _)
   | (with_reducible exact ih3 _ _ _ _ _ _ _ _)
   | (with_reducible exact ih4 _ _ _ _ _ _ _ _ _)
   | (with_reducible exact ih5 _ _ _ _ _ _ _ _ _ _)
   | (with_reducible exact xAu.mono _ _ _ _ _ _ _)
   | (with_reducible exact LeO.refl _)
   | (with_reducible exact LeO.none _)
   | (with_reducible refine LeO.ite ?_ ?_)
   | (with_reducible refine LeO.bind ?_ (fun _ => ?_))
  ·intro y0 y1 y2 y3 y4 y5 y6 y7 y8
   unfold xA7.l0
   repeat' first
   | (with_reducible exact ih0 _ _ _ _ _ _)
   | (with_reducible exact ih1 _ _ _ _ _ _ _)
   | (with_reducible exact ih2 _ _ _ _ _ _ _)
   | (with_reducible exact ih3 _ _ _ _ _ _ _ _)
   | (with_reducible exact ih4 _ _ _ _ _ _ _ _ _)
   | (with_reducible exact ih5 _ _ _ _ _ _ _ _ _ _)
   | (with_reducible exact xAu.mono _ _ _ _ _ _ _)
   | (with_reducible exact LeO.refl _)
   | (with_reducible exact LeO.none _)
   | (with_reducible refine LeO.ite ?_ ?_)
   | (with_reducible refine LeO.bind ?_ (fun _ => ?_))
  ·intro y0 y1 y2 y3 y4 y5 y6 y7 y8 y9
   unfold xA7.j2
   repeat' first
   | (with_reducible exact ih0 _ _ _ _ _ _)
   | (with_reducible exact ih1 _ _ _ _ _ _ _)
   | (with_reducible exact ih2 _ _ _ _ _ _ _)
   | (with_reducible exact ih3 _ _ _ _ _ _ _ _)
   | (with_reducible exact ih4 _ _ _ _ _ _ _ _ _)
   | (with_reducible exact ih5 _ _ _ _ _ _ _ _ _ _)
   | (with_reducible exact xAu.mono _ _ _ _ _ _ _)
   | (with_reducible exact LeO.refl _)
   | (with_reducible exact LeO.none _)
   | (with_reducible refine LeO.ite ?_ ?_)
   | (with_reducible refine LeO.bind ?_ (fun _ => ?_))
theorem xA7.mono : ∀ a0 a1 a2 a3 a4 a5 k, LeO (xA7.f k a0 a1 a2 a3 a4 a5) (xA7.f (k + 1) a0 a1 a2 a3 a4 a5) := by
 intro a0 a1 a2 a3 a4 a5 k
 obtain ⟨ih0, ih1, ih2, ih3, ih4, ih5⟩ := xA7.mono_l k
 exact ih0 a0 a1 a2 a3 a4 a5
set_option maxHeartbeats 8000000 in
set_option maxRecDepth 100000 in
theorem xA7.calls (k : Nat) : ∀ (a0_0 : ByteArray) (a0_1 : ByteArray) (a0_2 : Int) (a0_3 : Int) (A0_4 : Option Addr) (c0_4 : Nat) (l0_4 : List (S25)) (a1 : Int) (r : Bool) (w : World) (hr0_4 : Kd.C k25 w A0_4 l0_4.length l0_4) (hc0_4 : l0_4.length ≤ c0_4) (h : xA7.f k a0_0 a0_1 a0_2 a0_3 l0_4 a1 = some r) (m_ : Int) (hm_ : w.cell? ⟨0, 0, none⟩ = some (.int .i64 m_)),
  Calls Tryd.prog 54 #[.agg #[.string a0_0, .string a0_1, .int .i64 a0_2, .int .i64 a0_3, .slice A0_4 l0_4.length c0_4], .int .i64 a1] w fun e w' => e = .returned (.bool r) ∧ Below w.heap.size w w' := by
 induction k using Nat.strongRecOn with
 | _ k ih =>
 intro a0_0 a0_1 a0_2 a0_3 A0_4 c0_4 l0_4 a1 r w hr0_4 hc0_4 h m_ hm_
 have hmA_ := Aside0.mk hm_
 clear hm_
 cases k with
 | zero => exact absurd h (by simp [xA7.f])
 | succ k =>
 simp only [xA7.f] at h
 have hu25 := Tryd.underlying25
 have HR0_4 := Aside0.mk hr0_4
 have HC0_4 := Aside0.mk hc0_4
 clear hr0_4 hc0_4
 have HB := Aside0.mk (Below.refl w.heap.size w)
 have H : (if a1 > 12 then (xA7.j0 k a1 true a0_0 a0_1 a0_2 a0_3 l0_4) else (xA7.j0 k a1 (a0_0.toList == ([117, 115, 101] : List UInt8)) a0_0 a0_1 a0_2 a0_3 l0_4)) = some r := h
 clear h
 have HC3 := Aside0.mk H
 clear H
 go_enter Tryd.func54, Tryd.ntmps54
 go_upto_region 1 with (first | ((with_reducible refine xBq (N := 2) rfl ?_); (try (refine xCj (by rfl) ?_; dsimp only)); refine xBm ?hg (N := 2) ?hd (cs := #[.string a0_0, .string a0_1, .int .i64 a0_2, .int .i64 a0_3, .slice A0_4 l0_4.length c0_4]) (t := 25) ?hr ?_; (case hd => rfl); (case hg => rfl); (case hr => first | (go_simp; done) | (go_simp; rfl)); intro gb157 hg w4 hbox hb; have n0_ := Aside0.mk (xAi (by repeat (first | (with_reducible first | exact HB.out | apply xA1 | apply xA0 | apply below_drew1) | exact HB.out)) hb); have n1_ := Aside0.mk (hbox); have n2_ := Aside0.mk ((by rw [hg]; exact (xAs (by repeat (first | (with_reducible first | exact HB.out | apply xA1 | apply xA0 | apply below_drew1) | exact HB.out))) : w.heap.size ≤ gb157)); have n3_ := Aside0.mk ((by rw [hg]; exact (xAs (by repeat (first | (with_reducible first | exact HB.out | apply xA1 | apply xA0 | apply below_drew1) | exact HB.out))) : w.heap.size ≤ gb157)); clear HB; have HB := n0_; have BK157 := n1_; have GW157 := n2_; have GE157 := n3_; clear n0_ n1_ n2_ n3_; clear hb hbox hg))
 (try simp only [Act.put, List.setIfInBounds_toArray, List.set_cons_zero, List.set_cons_succ])
 go_cut [14] (fun v14 wc => ∃ (kq : Nat) (x14_2 : Bool), v14 = .bool x14_2 ∧ Aside0 (xA7.j0 kq a1 x14_2 a0_0 a0_1 a0_2 a0_3 l0_4 = some r) ∧ Aside0 (kq ≤ k) ∧ Aside0 (wc.heap[gb157]? = some (.cells #[.string a0_0, .string a0_1, .int .i64 a0_2, .int .i64 a0_3, (.slice A0_4 l0_4.length c0_4)] 25 (0, 0))) ∧ Aside0 (Below w.heap.size w wc))
 case first =>
  have H := HC3.out
  clear HC3
  by_cases c5 : a1 > 12
  ·rw [if_pos c5] at H
   have c5b0 : decide (12 < a1) = true := decide_eq_true c5
   clear c5
   (first | rw [c5b0] | (simp only [xB0, xB1]; rw [c5b0]) | skip)
   have H' := Aside0.mk H
   clear H
   go_wp2
   go_meet
   case rel => exact ⟨_, (true), (by first | rfl | (simp; done) | (simp [*]; done)), H', ⟨by first | omega | exact Nat.le_refl _⟩, ⟨by (with_reducible repeat (first | refine xA5 ?_ _ | refine xA8 ?_ | refine xA4 ?_ _)); exact BK157.out⟩, ⟨by repeat (first | (with_reducible first | exact HB.out | apply xA1 | apply xA0 | apply below_drew1 | refine xA6 ?_ GE157.out) | exact HB.out)⟩⟩
  ·rw [if_neg c5] at H
   have c5b0 : decide (12 < a1) = false := decide_eq_false c5
   clear c5
   (first | rw [c5b0] | (simp only [xB0, xB1]; rw [c5b0]) | skip)
   have H' := Aside0.mk H
   clear H
   obtain ⟨hcz6_0, hcz6_1, hcz6_2, hcz6_3, hcz6_4, hfz6_0, hfz6_1, hfz6_2, hfz6_3, hfz6_4⟩ := ex5 BK157.out
   go_wp2
   go_meet
   case rel => exact ⟨_, ((a0_0.toList == ([117, 115, 101] : List UInt8))), (by first | rfl | (simp; done) | (simp [*]; done)), H', ⟨by first | omega | exact Nat.le_refl _⟩, ⟨by (with_reducible repeat (first | refine xA5 ?_ _ | refine xA8 ?_ | refine xA4 ?_ _)); exact BK157.out⟩, ⟨by repeat (first | (with_reducible first | exact HB.out | apply xA1 | apply xA0 | apply below_drew1 | refine xA6 ?_ GE157.out) | exact HB.out)⟩⟩
 case rest =>
  clear HC3
  try clear p2
  try clear c5
  try clear c5b0
  try clear hcz6_0 hcz6_1 hcz6_2 hcz6_3 hcz6_4
  try clear hfz6_0 hfz6_1 hfz6_2 hfz6_3 hfz6_4
  obtain ⟨kq, x14_2, rfl, HA, HJ2, BK157, HB⟩ := hcut
  cases kq with
  | zero => exact absurd HA.out (by simp [xA7.j0])
  | succ kj2 =>
   have H := HA.out
   clear HA
   simp only [xA7.j0] at H
   by_cases c7 : x14_2 = true
   ·subst c7
    have H1 : (if a1 ≤ 12 then ((xAu.f kj2 a0_0 a0_1 a0_2 a0_3 l0_4 (⟨#[117, 115, 101]⟩ : ByteArray)).bind fun t158 => (some t158)) else (some false)) = some r := by rw [if_pos rfl] at H; exact H
    clear H
    have H := H1
    clear H1
    by_cases c8 : a1 ≤ 12
    ·rw [if_pos c8] at H
     have c8b0 : decide (a1 ≤ 12) = true := decide_eq_true c8
     clear c8
     replace H := Option.bind_eq_some_iff.mp H
     obtain ⟨t158, A90, H⟩ := H
     replace H : (some t158) = some r := H
     have A9 := Aside0.mk A90
     clear A90
     obtain rfl := Option.some.inj H
     obtain ⟨hcz10_0, hcz10_1, hcz10_2, hcz10_3, hcz10_4, hfz10_0, hfz10_1, hfz10_2, hfz10_3, hfz10_4⟩ := ex5 BK157.out
     go_wp2_with (first | (go_at_call 81; (with_reducible refine (xAu.calls kj2 a0_0 a0_1 a0_2 a0_3 _ _ l0_4 (⟨#[117, 115, 101]⟩ : ByteArray) t158 _ ?side1 ?side2 A9.out m_ (by first | (with_reducible exact hmA_.out) | exact xC4 hmA_.out (by repeat (first | (with_reducible first | exact HB.out | apply xA1 | apply xA0 | apply below_drew1 | refine xA6 ?_ GE157.out) | exact HB.out)) | (repeat (first | exact hmA_.out | refine xBu ?_ | refine mlen_drew ?_)))).mono ?_); (case side1 => repeat (first | exact (Kd.C_below HR0_4.out HB.out) | (with_reducible refine Kd.C_alloc ?_ _) | (with_reducible refine Kd.C_drewN ?_ _) | (with_reducible refine Kd.C_drew ?_))); (case side2 => exact HC0_4.out); rintro e w11 ⟨rfl, hb⟩; have n0_ := Aside0.mk (xAt (g := gb157) (o := .cells #[.string a0_0, .string a0_1, .int .i64 a0_2, .int .i64 a0_3, .slice A0_4 l0_4.length c0_4] 25 (0, 0)) (by (with_reducible repeat (first | refine xA5 ?_ _ | refine xA8 ?_ | refine xA4 ?_ _)); exact BK157.out) hb); have n1_ := Aside0.mk (xAi (by repeat (first | (with_reducible first | exact HB.out | apply xA1 | apply xA0 | apply below_drew1 | refine xA6 ?_ GE157.out) | exact HB.out)) hb); clear BK157; clear HB; have BK157 := n0_; have HB := n1_; clear n0_ n1_; (try clear hb); (try clear hb2); (try clear hk); (try clear hi)))
     go_ret
     exact ⟨by first | rfl | (simp <;> rfl) | (simp [*] <;> rfl), by repeat (first | (with_reducible first | exact HB.out | apply xA1 | apply xA0 | apply below_drew1 | refine xA6 ?_ GE157.out) | exact HB.out)⟩
    ·rw [if_neg c8] at H
     have c8b0 : decide (a1 ≤ 12) = false := decide_eq_false c8
     clear c8
     obtain rfl := Option.some.inj H
     go_wp2
     go_ret
     exact ⟨by first | rfl | (simp <;> rfl) | (simp [*] <;> rfl), by repeat (first | (with_reducible first | exact HB.out | apply xA1 | apply xA0 | apply below_drew1 | refine xA6 ?_ GE157.out) | exact HB.out)⟩
   ·replace c7 := Bool.eq_false_iff.mpr c7
    subst c7
    have H1 : (if a0_2 = 0 then (if a0_1.toList = ([] : List UInt8) then (xA7.j1 kj2 a1 ((l0_4.length : Int) == 0) a0_0 a0_1 a0_2 a0_3 l0_4) else (xA7.j1 kj2 a1 true a0_0 a0_1 a0_2 a0_3 l0_4)) else (xA7.j1 kj2 a1 true a0_0 a0_1 a0_2 a0_3 l0_4)) = some r := by rw [if_neg (show ¬ (false = true) by decide)] at H; exact H
    clear H
    have H := H1
    clear H1
    have HC12 := Aside0.mk H
    clear H
    go_upto_region 3 with (fail)
    go_cut [34] (fun v34 wc => ∃ (kq : Nat) (x34_11 : Bool), v34 = .bool x34_11 ∧ Aside0 (xA7.j1 kq a1 x34_11 a0_0 a0_1 a0_2 a0_3 l0_4 = some r) ∧ Aside0 (kq ≤ kj2) ∧ Aside0 (wc.heap[gb157]? = some (.cells #[.string a0_0, .string a0_1, .int .i64 a0_2, .int .i64 a0_3, (.slice A0_4 l0_4.length c0_4)] 25 (0, 0))) ∧ Aside0 (Below w.heap.size w wc))
    case first =>
     have H := HC12.out
     clear HC12
     by_cases c13 : a0_2 = 0
     ·rw [if_pos c13] at H
      have c13b0 : (a0_2 == 0) = true := beq_iff_eq.mpr c13
      have c13b1 : (a0_2 != 0) = false := bne_eq_false_iff_eq.mpr c13
      clear c13
      (first | rw [c13b0] | (simp only [xB0, xB1]; rw [c13b0]) | skip)
      by_cases c14 : a0_1.toList = ([] : List UInt8)
      ·rw [if_pos c14] at H
       have c14b0 : (a0_1.toList == ([] : List UInt8)) = true := beq_iff_eq.mpr c14
       have c14b1 : (a0_1.toList != ([] : List UInt8)) = false := bne_eq_false_iff_eq.mpr c14
       clear c14
       have H' := Aside0.mk H
       clear H
       obtain ⟨hcz15_0, hcz15_1, hcz15_2, hcz15_3, hcz15_4, hfz15_0, hfz15_1, hfz15_2, hfz15_3, hfz15_4⟩ := ex5 BK157.out
       go_wp2
       go_meet
       case rel => exact ⟨_, (((l0_4.length : Int) == 0)), (by first | rfl | (simp; done) | (simp [*]; done)), H', ⟨by have := HJ2.out; first | omega | exact Nat.le_refl _⟩, ⟨by (with_reducible repeat (first | refine xA5 ?_ _ | refine xA8 ?_ | refine xA4 ?_ _)); exact BK157.out⟩, ⟨by repeat (first | (with_reducible first | exact HB.out | apply xA1 | apply xA0 | apply below_drew1 | refine xA6 ?_ GE157.out) | exact HB.out)⟩⟩
      ·rw [if_neg c14] at H
       have c14b0 : (a0_1.toList == ([] : List UInt8)) = false := beq_eq_false_iff_ne.mpr c14
       have c14b1 : (a0_1.toList != ([] : List UInt8)) = true := bne_iff_ne.mpr c14
       have H' := Aside0.mk H
       clear H
       obtain ⟨hcz16_0, hcz16_1, hcz16_2, hcz16_3, hcz16_4, hfz16_0, hfz16_1, hfz16_2, hfz16_3, hfz16_4⟩ := ex5 BK157.out
       go_wp2
       go_meet
       case rel => exact ⟨_, (true), (by first | rfl | (simp; done) | (simp [*]; done)), H', ⟨by have := HJ2.out; first | omega | exact Nat.le_refl _⟩, ⟨by (with_reducible repeat (first | refine xA5 ?_ _ | refine xA8 ?_ | refine xA4 ?_ _)); exact BK157.out⟩, ⟨by repeat (first | (with_reducible first | exact HB.out | apply xA1 | apply xA0 | apply below_drew1 | refine xA6 ?_ GE157.out) | exact HB.out)⟩⟩
     ·rw [if_neg c13] at H
      have c13b0 : (a0_2 == 0) = false := beq_eq_false_iff_ne.mpr c13
      have c13b1 : (a0_2 != 0) = true := bne_iff_ne.mpr c13
      (first | rw [c13b0] | (simp only [xB0, xB1]; rw [c13b0]) | skip)
      have H' := Aside0.mk H
      clear H
      obtain ⟨hcz17_0, hcz17_1, hcz17_2, hcz17_3, hcz17_4, hfz17_0, hfz17_1, hfz17_2, hfz17_3, hfz17_4⟩ := ex5 BK157.out
      go_wp2
      go_meet
      case rel => exact ⟨_, (true), (by first | rfl | (simp; done) | (simp [*]; done)), H', ⟨by have := HJ2.out; first | omega | exact Nat.le_refl _⟩, ⟨by (with_reducible repeat (first | refine xA5 ?_ _ | refine xA8 ?_ | refine xA4 ?_ _)); exact BK157.out⟩, ⟨by repeat (first | (with_reducible first | exact HB.out | apply xA1 | apply xA0 | apply below_drew1 | refine xA6 ?_ GE157.out) | exact HB.out)⟩⟩
    case rest =>
     clear HC12
     try clear c1
     try clear p2
     try clear c5
     try clear c5b0
     try clear c7
     try clear c8
     try clear c8b0
     try clear c13
     try clear c13b0
     try clear c13b1
     try clear c14
     try clear c14b0
     try clear c14b1
     try clear hcz10_0 hcz10_1 hcz10_2 hcz10_3 hcz10_4
     try clear hcz15_0 hcz15_1 hcz15_2 hcz15_3 hcz15_4
     try clear hcz16_0 hcz16_1 hcz16_2 hcz16_3 hcz16_4
     try clear hcz17_0 hcz17_1 hcz17_2 hcz17_3 hcz17_4
     try clear hcz6_0 hcz6_1 hcz6_2 hcz6_3 hcz6_4
     try clear hfz10_0 hfz10_1 hfz10_2 hfz10_3 hfz10_4
     try clear hfz15_0 hfz15_1 hfz15_2 hfz15_3 hfz15_4
     try clear hfz16_0 hfz16_1 hfz16_2 hfz16_3 hfz16_4
     try clear hfz17_0 hfz17_1 hfz17_2 hfz17_3 hfz17_4
     try clear hfz6_0 hfz6_1 hfz6_2 hfz6_3 hfz6_4
     try clear p2
     obtain ⟨kq, x34_11, rfl, HA, HJ11, BK157, HB⟩ := hcut
     cases kq with
     | zero => exact absurd HA.out (by simp [xA7.j1])
     | succ kj11 =>
      have H := HA.out
      clear HA
      simp only [xA7.j1] at H
      by_cases c18 : x34_11 = true
      ·subst c18
       have H1 : (some false) = some r := by rw [if_pos rfl] at H; exact H
       clear H
       have H := H1
       clear H1
       obtain rfl := Option.some.inj H
       go_wp2
       go_ret
       exact ⟨by first | rfl | (simp <;> rfl) | (simp [*] <;> rfl), by repeat (first | (with_reducible first | exact HB.out | apply xA1 | apply xA0 | apply below_drew1 | refine xA6 ?_ GE157.out) | exact HB.out)⟩
      ·replace c18 := Bool.eq_false_iff.mpr c18
       subst c18
       have H1 : (if a0_0.toList = ([108, 105, 110, 101, 97, 114] : List UInt8) then (if (l0_4.length : Int) = 3 then (if 1 < (l0_4.length : Int) then ((xAu.f kj11 ((xA2 l0_4 1).f0) ((xA2 l0_4 1).f1) ((xA2 l0_4 1).f2) ((xA2 l0_4 1).f3) ((xA2 l0_4 1).f4) (⟨#[110, 117, 109]⟩ : ByteArray)).bind fun t160 => (if t160 = true then (if 2 < (l0_4.length : Int) then ((xAu.f kj11 ((xA2 l0_4 2).f0) ((xA2 l0_4 2).f1) ((xA2 l0_4 2).f2) ((xA2 l0_4 2).f3) ((xA2 l0_4 2).f4) (⟨#[110, 117, 109]⟩ : ByteArray)).bind fun t162 => (xA7.j3 kj11 a1 1 t162 a0_0 a0_1 a0_2 a0_3 l0_4)) else (none)) else (xA7.j3 kj11 a1 1 false a0_0 a0_1 a0_2 a0_3 l0_4))) else (none)) else (xA7.j3 kj11 a1 1 false a0_0 a0_1 a0_2 a0_3 l0_4)) else (if a0_0.toList = ([115, 110, 97, 112, 115, 104, 111, 116] : List UInt8) then (if (l0_4.length : Int) = 3 then (if 2 < (l0_4.length : Int) then ((xAu.f kj11 ((xA2 l0_4 2).f0) ((xA2 l0_4 2).f1) ((xA2 l0_4 2).f2) ((xA2 l0_4 2).f3) ((xA2 l0_4 2).f4) (⟨#[110, 117, 109]⟩ : ByteArray)).bind fun t164 => (xA7.j3 kj11 a1 2 t164 a0_0 a0_1 a0_2 a0_3 l0_4)) else (none)) else (xA7.j3 kj11 a1 2 false a0_0 a0_1 a0_2 a0_3 l0_4)) else (if a0_0.toList = ([99, 114, 121, 112, 116] : List UInt8) then (xA7.j2 kj11 a1 1 true a0_0 (a0_0.toList == ([99, 114, 121, 112, 116] : List UInt8)) a0_0 a0_1 a0_2 a0_3 l0_4) else (if a0_0.toList = ([105, 110, 116, 101, 103, 114, 105, 116, 121] : List UInt8) then (xA7.j2 kj11 a1 1 true a0_0 (a0_0.toList == ([105, 110, 116, 101, 103, 114, 105, 116, 121] : List UInt8)) a0_0 a0_1 a0_2 a0_3 l0_4) else (xA7.j2 kj11 a1 1 true a0_0 (a0_0.toList == ([118, 101, 114, 105, 116, 121] : List UInt8)) a0_0 a0_1 a0_2 a0_3 l0_4))))) = some r := by rw [if_neg (show ¬ (false = true) by decide)] at H; exact H
       clear H
       have H := H1
       clear H1
       have HC19 := Aside0.mk H
       clear H
       obtain ⟨hcz20_0, hcz20_1, hcz20_2, hcz20_3, hcz20_4, hfz20_0, hfz20_1, hfz20_2, hfz20_3, hfz20_4⟩ := ex5 BK157.out
       go_upto_block 0 with (fail)
       go_cut [5, 6] (fun v5 v6 wc => ∃ (kq : Nat) (x5_18 : Int) (x6_18 : Bool), v5 = .int .i64 x5_18 ∧ v6 = .bool x6_18 ∧ Aside0 (xA7.j3 kq a1 x5_18 x6_18 a0_0 a0_1 a0_2 a0_3 l0_4 = some r) ∧ Aside0 (kq ≤ kj11) ∧ Aside0 (wc.heap[gb157]? = some (.cells #[.string a0_0, .string a0_1, .int .i64 a0_2, .int .i64 a0_3, (.slice A0_4 l0_4.length c0_4)] 25 (0, 0))) ∧ Aside0 (Below w.heap.size w wc))
       case first =>
        have H := HC19.out
        clear HC19
        by_cases c21 : a0_0.toList = ([108, 105, 110, 101, 97, 114] : List UInt8)
        ·rw [if_pos c21] at H
         have c21b0 : (a0_0.toList == ([108, 105, 110, 101, 97, 114] : List UInt8)) = true := beq_iff_eq.mpr c21
         have c21b1 : (a0_0.toList != ([108, 105, 110, 101, 97, 114] : List UInt8)) = false := bne_eq_false_iff_eq.mpr c21
         clear c21
         (first | rw [c21b0] | (simp only [xB0, xB1]; rw [c21b0]) | skip)
         by_cases c22 : (l0_4.length : Int) = 3
         ·rw [if_pos c22] at H
          have c22b0 : ((l0_4.length : Int) == 3) = true := beq_iff_eq.mpr c22
          have c22b1 : ((l0_4.length : Int) != 3) = false := bne_eq_false_iff_eq.mpr c22
          clear c22
          by_cases c23 : 1 < (l0_4.length : Int)
          ·rw [if_pos c23] at H
           have c23b0 : decide (1 < (l0_4.length : Int)) = true := decide_eq_true c23
           have c23b1 : decide (1 < l0_4.length) = true := decide_eq_true (by omega)
           clear c23
           replace H := Option.bind_eq_some_iff.mp H
           obtain ⟨t160, A240, H⟩ := H
           replace H : (if t160 = true then (if 2 < (l0_4.length : Int) then ((xAu.f kj11 ((xA2 l0_4 2).f0) ((xA2 l0_4 2).f1) ((xA2 l0_4 2).f2) ((xA2 l0_4 2).f3) ((xA2 l0_4 2).f4) (⟨#[110, 117, 109]⟩ : ByteArray)).bind fun t162 => (xA7.j3 kj11 a1 1 t162 a0_0 a0_1 a0_2 a0_3 l0_4)) else (none)) else (xA7.j3 kj11 a1 1 false a0_0 a0_1 a0_2 a0_3 l0_4)) = some r := H
           have A24 := Aside0.mk A240
           clear A240
           by_cases c25 : t160 = true
           ·subst c25
            have H1 : (if 2 < (l0_4.length : Int) then ((xAu.f kj11 ((xA2 l0_4 2).f0) ((xA2 l0_4 2).f1) ((xA2 l0_4 2).f2) ((xA2 l0_4 2).f3) ((xA2 l0_4 2).f4) (⟨#[110, 117, 109]⟩ : ByteArray)).bind fun t162 => (xA7.j3 kj11 a1 1 t162 a0_0 a0_1 a0_2 a0_3 l0_4)) else (none)) = some r := by rw [if_pos rfl] at H; exact H
            clear H
            have H := H1
            clear H1
            by_cases c26 : 2 < (l0_4.length : Int)
            ·rw [if_pos c26] at H
             have c26b0 : decide (2 < (l0_4.length : Int)) = true := decide_eq_true c26
             have c26b1 : decide (2 < l0_4.length) = true := decide_eq_true (by omega)
             clear c26
             replace H := Option.bind_eq_some_iff.mp H
             obtain ⟨t162, A270, H⟩ := H
             replace H : (xA7.j3 kj11 a1 1 t162 a0_0 a0_1 a0_2 a0_3 l0_4) = some r := H
             have A27 := Aside0.mk A270
             clear A270
             have H' := Aside0.mk H
             clear H
             obtain ⟨hcz28_0, hcz28_1, hcz28_2, hcz28_3, hcz28_4, hfz28_0, hfz28_1, hfz28_2, hfz28_3, hfz28_4⟩ := ex5 BK157.out
             have p159 : 0 ≤ (1 : Int) := (by omega)
             have q159 : 1 < (l0_4.length : Int) := of_decide_eq_true (by first | (with_reducible assumption) | assumption)
             obtain ⟨ad159, A159_4, c159_4, e159, hx159_0, hx159_1, hx159_2, hx159_3, hx159_4, hl159_4, hi159_4⟩ := xC3 HR0_4.out 1 p159 q159
             cases e159
             (try simp only [show (1 : Int).toNat = 1 from rfl, Nat.reduceMul, Nat.reduceEqDiff, Go.Addr.add, ↓reduceIte] at hx159_0 hx159_1 hx159_2 hx159_3 hx159_4)
             have qi159 : (1 < l0_4.length) = True := eq_true (by omega)
             (try rw [show ((1 : Int)).toNat = 1 from rfl] at hx159_0)
             (try rw [show 1 * 5 = 5 from rfl] at hx159_0)
             (try rw [show ((1 : Int)).toNat = 1 from rfl] at hx159_1)
             (try rw [show 1 * 5 = 5 from rfl] at hx159_1)
             (try rw [show ((1 : Int)).toNat = 1 from rfl] at hx159_2)
             (try rw [show 1 * 5 = 5 from rfl] at hx159_2)
             (try rw [show ((1 : Int)).toNat = 1 from rfl] at hx159_3)
             (try rw [show 1 * 5 = 5 from rfl] at hx159_3)
             (try rw [show ((1 : Int)).toNat = 1 from rfl] at hx159_4)
             (try rw [show 1 * 5 = 5 from rfl] at hx159_4)
             replace hx159_0 := (HB.out.cell (World.block_lt_of_cell? w _ hx159_0)).trans hx159_0
             replace hx159_1 := (HB.out.cell (World.block_lt_of_cell? w _ hx159_1)).trans hx159_1
             replace hx159_2 := (HB.out.cell (World.block_lt_of_cell? w _ hx159_2)).trans hx159_2
             replace hx159_3 := (HB.out.cell (World.block_lt_of_cell? w _ hx159_3)).trans hx159_3
             replace hx159_4 := (HB.out.cell (World.block_lt_of_cell? w _ hx159_4)).trans hx159_4
             have HR159_4 := Aside0.mk hi159_4
             have HC159_4 := Aside0.mk hl159_4
             clear hi159_4 hl159_4
             replace p159 := eq_true p159
             replace q159 := eq_true q159
             go_wp2_with (first | (go_at_call 81; (with_reducible refine (xAu.calls kj11 ((xA2 l0_4 1).f0) ((xA2 l0_4 1).f1) ((xA2 l0_4 1).f2) ((xA2 l0_4 1).f3) _ _ ((xA2 l0_4 1).f4) (⟨#[110, 117, 109]⟩ : ByteArray) true _ ?side1 ?side2 A24.out m_ (by first | (with_reducible exact hmA_.out) | exact xC4 hmA_.out (by repeat (first | (with_reducible first | exact HB.out | apply xA1 | apply xA0 | apply below_drew1 | refine xA6 ?_ GE157.out) | exact HB.out)) | (repeat (first | exact hmA_.out | refine xBu ?_ | refine mlen_drew ?_)))).mono ?_); (case side1 => repeat (first | exact (Kd.C_below HR159_4.out HB.out) | (with_reducible refine Kd.C_alloc ?_ _) | (with_reducible refine Kd.C_drewN ?_ _) | (with_reducible refine Kd.C_drew ?_))); (case side2 => exact HC159_4.out); rintro e w29 ⟨rfl, hb⟩; have n0_ := Aside0.mk (xAt (g := gb157) (o := .cells #[.string a0_0, .string a0_1, .int .i64 a0_2, .int .i64 a0_3, .slice (some ad159) l0_4.length c0_4] 25 (0, 0)) (by (with_reducible repeat (first | refine xA5 ?_ _ | refine xA8 ?_ | refine xA4 ?_ _)); exact BK157.out) hb); have n1_ := Aside0.mk (xAi (by repeat (first | (with_reducible first | exact HB.out | apply xA1 | apply xA0 | apply below_drew1 | refine xA6 ?_ GE157.out) | exact HB.out)) hb); clear BK157; clear HB; have BK157 := n0_; have HB := n1_; clear n0_ n1_; (try clear hb); (try clear hb2); (try clear hk); (try clear hi); obtain ⟨hcz30_0, hcz30_1, hcz30_2, hcz30_3, hcz30_4, hfz30_0, hfz30_1, hfz30_2, hfz30_3, hfz30_4⟩ := ex5 BK157.out; have p161 : 0 ≤ (2 : Int) := (by omega); have q161 : 2 < (l0_4.length : Int) := of_decide_eq_true (by first | (with_reducible assumption) | assumption); obtain ⟨ad161, A161_4, c161_4, e161, hx161_0, hx161_1, hx161_2, hx161_3, hx161_4, hl161_4, hi161_4⟩ := xC3 HR0_4.out 2 p161 q161; obtain rfl : ad159 = ad161 := (by injection e161); (try simp only [show (2 : Int).toNat = 2 from rfl, Nat.reduceMul, Nat.reduceEqDiff, Go.Addr.add, ↓reduceIte] at hx161_0 hx161_1 hx161_2 hx161_3 hx161_4); have qi161 : (2 < l0_4.length) = True := eq_true (by omega); (try rw [show ((2 : Int)).toNat = 2 from rfl] at hx161_0); (try rw [show 2 * 5 = 10 from rfl] at hx161_0); (try rw [show ((2 : Int)).toNat = 2 from rfl] at hx161_1); (try rw [show 2 * 5 = 10 from rfl] at hx161_1); (try rw [show ((2 : Int)).toNat = 2 from rfl] at hx161_2); (try rw [show 2 * 5 = 10 from rfl] at hx161_2); (try rw [show ((2 : Int)).toNat = 2 from rfl] at hx161_3); (try rw [show 2 * 5 = 10 from rfl] at hx161_3); (try rw [show ((2 : Int)).toNat = 2 from rfl] at hx161_4); (try rw [show 2 * 5 = 10 from rfl] at hx161_4); replace hx161_0 := (HB.out.cell (World.block_lt_of_cell? w _ hx161_0)).trans hx161_0; replace hx161_1 := (HB.out.cell (World.block_lt_of_cell? w _ hx161_1)).trans hx161_1; replace hx161_2 := (HB.out.cell (World.block_lt_of_cell? w _ hx161_2)).trans hx161_2; replace hx161_3 := (HB.out.cell (World.block_lt_of_cell? w _ hx161_3)).trans hx161_3; replace hx161_4 := (HB.out.cell (World.block_lt_of_cell? w _ hx161_4)).trans hx161_4; have HR161_4 := Aside0.mk hi161_4; have HC161_4 := Aside0.mk hl161_4; clear hi161_4 hl161_4; replace p161 := eq_true p161; replace q161 := eq_true q161) | (go_at_call 81; (with_reducible refine (xAu.calls kj11 ((xA2 l0_4 2).f0) ((xA2 l0_4 2).f1) ((xA2 l0_4 2).f2) ((xA2 l0_4 2).f3) _ _ ((xA2 l0_4 2).f4) (⟨#[110, 117, 109]⟩ : ByteArray) t162 _ ?side1 ?side2 A27.out m_ (by first | (with_reducible exact hmA_.out) | exact xC4 hmA_.out (by repeat (first | (with_reducible first | exact HB.out | apply xA1 | apply xA0 | apply below_drew1 | refine xA6 ?_ GE157.out) | exact HB.out)) | (repeat (first | exact hmA_.out | refine xBu ?_ | refine mlen_drew ?_)))).mono ?_); (case side1 => repeat (first | exact (Kd.C_below HR161_4.out HB.out) | (with_reducible refine Kd.C_alloc ?_ _) | (with_reducible refine Kd.C_drewN ?_ _) | (with_reducible refine Kd.C_drew ?_))); (case side2 => exact HC161_4.out); rintro e w31 ⟨rfl, hb⟩; have n0_ := Aside0.mk (xAt (g := gb157) (o := .cells #[.string a0_0, .string a0_1, .int .i64 a0_2, .int .i64 a0_3, .slice (some ad159) l0_4.length c0_4] 25 (0, 0)) (by (with_reducible repeat (first | refine xA5 ?_ _ | refine xA8 ?_ | refine xA4 ?_ _)); exact BK157.out) hb); have n1_ := Aside0.mk (xAi (by repeat (first | (with_reducible first | exact HB.out | apply xA1 | apply xA0 | apply below_drew1 | refine xA6 ?_ GE157.out) | exact HB.out)) hb); clear BK157; clear HB; have BK157 := n0_; have HB := n1_; clear n0_ n1_; (try clear hb); (try clear hb2); (try clear hk); (try clear hi)))
             go_meet
             case rel => exact ⟨_, (1), (t162), (by first | rfl | (simp; done) | (simp [*]; done)), (by first | rfl | (simp; done) | (simp [*]; done)), H', ⟨by have := HJ2.out; have := HJ11.out; first | omega | exact Nat.le_refl _⟩, ⟨by (with_reducible repeat (first | refine xA5 ?_ _ | refine xA8 ?_ | refine xA4 ?_ _)); exact BK157.out⟩, ⟨by repeat (first | (with_reducible first | exact HB.out | apply xA1 | apply xA0 | apply below_drew1 | refine xA6 ?_ GE157.out) | exact HB.out)⟩⟩
            ·rw [if_neg c26] at H
             exact absurd H (by simp)
           ·replace c25 := Bool.eq_false_iff.mpr c25
            subst c25
            have H1 : (xA7.j3 kj11 a1 1 false a0_0 a0_1 a0_2 a0_3 l0_4) = some r := by rw [if_neg (show ¬ (false = true) by decide)] at H; exact H
            clear H
            have H := H1
            clear H1
            have H' := Aside0.mk H
            clear H
            obtain ⟨hcz32_0, hcz32_1, hcz32_2, hcz32_3, hcz32_4, hfz32_0, hfz32_1, hfz32_2, hfz32_3, hfz32_4⟩ := ex5 BK157.out
            have p159 : 0 ≤ (1 : Int) := (by omega)
            have q159 : 1 < (l0_4.length : Int) := of_decide_eq_true (by first | (with_reducible assumption) | assumption)
            obtain ⟨ad159, A159_4, c159_4, e159, hx159_0, hx159_1, hx159_2, hx159_3, hx159_4, hl159_4, hi159_4⟩ := xC3 HR0_4.out 1 p159 q159
            cases e159
            (try simp only [show (1 : Int).toNat = 1 from rfl, Nat.reduceMul, Nat.reduceEqDiff, Go.Addr.add, ↓reduceIte] at hx159_0 hx159_1 hx159_2 hx159_3 hx159_4)
            have qi159 : (1 < l0_4.length) = True := eq_true (by omega)
            (try rw [show ((1 : Int)).toNat = 1 from rfl] at hx159_0)
            (try rw [show 1 * 5 = 5 from rfl] at hx159_0)
            (try rw [show ((1 : Int)).toNat = 1 from rfl] at hx159_1)
            (try rw [show 1 * 5 = 5 from rfl] at hx159_1)
            (try rw [show ((1 : Int)).toNat = 1 from rfl] at hx159_2)
            (try rw [show 1 * 5 = 5 from rfl] at hx159_2)
            (try rw [show ((1 : Int)).toNat = 1 from rfl] at hx159_3)
            (try rw [show 1 * 5 = 5 from rfl] at hx159_3)
            (try rw [show ((1 : Int)).toNat = 1 from rfl] at hx159_4)
            (try rw [show 1 * 5 = 5 from rfl] at hx159_4)
            replace hx159_0 := (HB.out.cell (World.block_lt_of_cell? w _ hx159_0)).trans hx159_0
            replace hx159_1 := (HB.out.cell (World.block_lt_of_cell? w _ hx159_1)).trans hx159_1
            replace hx159_2 := (HB.out.cell (World.block_lt_of_cell? w _ hx159_2)).trans hx159_2
            replace hx159_3 := (HB.out.cell (World.block_lt_of_cell? w _ hx159_3)).trans hx159_3
            replace hx159_4 := (HB.out.cell (World.block_lt_of_cell? w _ hx159_4)).trans hx159_4
            have HR159_4 := Aside0.mk hi159_4
            have HC159_4 := Aside0.mk hl159_4
            clear hi159_4 hl159_4
            replace p159 := eq_true p159
            replace q159 := eq_true q159
            go_wp2_with (first | (go_at_call 81; (with_reducible refine (xAu.calls kj11 ((xA2 l0_4 1).f0) ((xA2 l0_4 1).f1) ((xA2 l0_4 1).f2) ((xA2 l0_4 1).f3) _ _ ((xA2 l0_4 1).f4) (⟨#[110, 117, 109]⟩ : ByteArray) false _ ?side1 ?side2 A24.out m_ (by first | (with_reducible exact hmA_.out) | exact xC4 hmA_.out (by repeat (first | (with_reducible first | exact HB.out | apply xA1 | apply xA0 | apply below_drew1 | refine xA6 ?_ GE157.out) | exact HB.out)) | (repeat (first | exact hmA_.out | refine xBu ?_ | refine mlen_drew ?_)))).mono ?_); (case side1 => repeat (first | exact (Kd.C_below HR159_4.out HB.out) | (with_reducible refine Kd.C_alloc ?_ _) | (with_reducible refine Kd.C_drewN ?_ _) | (with_reducible refine Kd.C_drew ?_))); (case side2 => exact HC159_4.out); rintro e w33 ⟨rfl, hb⟩; have n0_ := Aside0.mk (xAt (g := gb157) (o := .cells #[.string a0_0, .string a0_1, .int .i64 a0_2, .int .i64 a0_3, .slice (some ad159) l0_4.length c0_4] 25 (0, 0)) (by (with_reducible repeat (first | refine xA5 ?_ _ | refine xA8 ?_ | refine xA4 ?_ _)); exact BK157.out) hb); have n1_ := Aside0.mk (xAi (by repeat (first | (with_reducible first | exact HB.out | apply xA1 | apply xA0 | apply below_drew1 | refine xA6 ?_ GE157.out) | exact HB.out)) hb); clear BK157; clear HB; have BK157 := n0_; have HB := n1_; clear n0_ n1_; (try clear hb); (try clear hb2); (try clear hk); (try clear hi)))
            go_meet
            case rel => exact ⟨_, (1), (false), (by first | rfl | (simp; done) | (simp [*]; done)), (by first | rfl | (simp; done) | (simp [*]; done)), H', ⟨by have := HJ2.out; have := HJ11.out; first | omega | exact Nat.le_refl _⟩, ⟨by (with_reducible repeat (first | refine xA5 ?_ _ | refine xA8 ?_ | refine xA4 ?_ _)); exact BK157.out⟩, ⟨by repeat (first | (with_reducible first | exact HB.out | apply xA1 | apply xA0 | apply below_drew1 | refine xA6 ?_ GE157.out) | exact HB.out)⟩⟩
          ·rw [if_neg c23] at H
           exact absurd H (by simp)
         ·rw [if_neg c22] at H
          have c22b0 : ((l0_4.length : Int) == 3) = false := beq_eq_false_iff_ne.mpr c22
          have c22b1 : ((l0_4.length : Int) != 3) = true := bne_iff_ne.mpr c22
          have H' := Aside0.mk H
          clear H
          obtain ⟨hcz34_0, hcz34_1, hcz34_2, hcz34_3, hcz34_4, hfz34_0, hfz34_1, hfz34_2, hfz34_3, hfz34_4⟩ := ex5 BK157.out
          go_wp2
          go_meet
          case rel => exact ⟨_, (1), (false), (by first | rfl | (simp; done) | (simp [*]; done)), (by first | rfl | (simp; done) | (simp [*]; done)), H', ⟨by have := HJ2.out; have := HJ11.out; first | omega | exact Nat.le_refl _⟩, ⟨by (with_reducible repeat (first | refine xA5 ?_ _ | refine xA8 ?_ | refine xA4 ?_ _)); exact BK157.out⟩, ⟨by repeat (first | (with_reducible first | exact HB.out | apply xA1 | apply xA0 | apply below_drew1 | refine xA6 ?_ GE157.out) | exact HB.out)⟩⟩
        ·rw [if_neg c21] at H
         have c21b0 : (a0_0.toList == ([108, 105, 110, 101, 97, 114] : List UInt8)) = false := beq_eq_false_iff_ne.mpr c21
         have c21b1 : (a0_0.toList != ([108, 105, 110, 101, 97, 114] : List UInt8)) = true := bne_iff_ne.mpr c21
         (first | rw [c21b0] | (simp only [xB0, xB1]; rw [c21b0]) | skip)
         by_cases c35 : a0_0.toList = ([115, 110, 97, 112, 115, 104, 111, 116] : List UInt8)
         ·rw [if_pos c35] at H
          have c35b0 : (a0_0.toList == ([115, 110, 97, 112, 115, 104, 111, 116] : List UInt8)) = true := beq_iff_eq.mpr c35
          have c35b1 : (a0_0.toList != ([115, 110, 97, 112, 115, 104, 111, 116] : List UInt8)) = false := bne_eq_false_iff_eq.mpr c35
          clear c35
          by_cases c36 : (l0_4.length : Int) = 3
          ·rw [if_pos c36] at H
           have c36b0 : ((l0_4.length : Int) == 3) = true := beq_iff_eq.mpr c36
           have c36b1 : ((l0_4.length : Int) != 3) = false := bne_eq_false_iff_eq.mpr c36
           clear c36
           by_cases c37 : 2 < (l0_4.length : Int)
           ·rw [if_pos c37] at H
            have c37b0 : decide (2 < (l0_4.length : Int)) = true := decide_eq_true c37
            have c37b1 : decide (2 < l0_4.length) = true := decide_eq_true (by omega)
            clear c37
            replace H := Option.bind_eq_some_iff.mp H
            obtain ⟨t164, A380, H⟩ := H
            replace H : (xA7.j3 kj11 a1 2 t164 a0_0 a0_1 a0_2 a0_3 l0_4) = some r := H
            have A38 := Aside0.mk A380
            clear A380
            have H' := Aside0.mk H
            clear H
            obtain ⟨hcz39_0, hcz39_1, hcz39_2, hcz39_3, hcz39_4, hfz39_0, hfz39_1, hfz39_2, hfz39_3, hfz39_4⟩ := ex5 BK157.out
            have p163 : 0 ≤ (2 : Int) := (by omega)
            have q163 : 2 < (l0_4.length : Int) := of_decide_eq_true (by first | (with_reducible assumption) | assumption)
            obtain ⟨ad163, A163_4, c163_4, e163, hx163_0, hx163_1, hx163_2, hx163_3, hx163_4, hl163_4, hi163_4⟩ := xC3 HR0_4.out 2 p163 q163
            cases e163
            (try simp only [show (2 : Int).toNat = 2 from rfl, Nat.reduceMul, Nat.reduceEqDiff, Go.Addr.add, ↓reduceIte] at hx163_0 hx163_1 hx163_2 hx163_3 hx163_4)
            have qi163 : (2 < l0_4.length) = True := eq_true (by omega)
            (try rw [show ((2 : Int)).toNat = 2 from rfl] at hx163_0)
            (try rw [show 2 * 5 = 10 from rfl] at hx163_0)
            (try rw [show ((2 : Int)).toNat = 2 from rfl] at hx163_1)
            (try rw [show 2 * 5 = 10 from rfl] at hx163_1)
            (try rw [show ((2 : Int)).toNat = 2 from rfl] at hx163_2)
            (try rw [show 2 * 5 = 10 from rfl] at hx163_2)
            (try rw [show ((2 : Int)).toNat = 2 from rfl] at hx163_3)
            (try rw [show 2 * 5 = 10 from rfl] at hx163_3)
            (try rw [show ((2 : Int)).toNat = 2 from rfl] at hx163_4)
            (try rw [show 2 * 5 = 10 from rfl] at hx163_4)
            replace hx163_0 := (HB.out.cell (World.block_lt_of_cell? w _ hx163_0)).trans hx163_0
            replace hx163_1 := (HB.out.cell (World.block_lt_of_cell? w _ hx163_1)).trans hx163_1
            replace hx163_2 := (HB.out.cell (World.block_lt_of_cell? w _ hx163_2)).trans hx163_2
            replace hx163_3 := (HB.out.cell (World.block_lt_of_cell? w _ hx163_3)).trans hx163_3
            replace hx163_4 := (HB.out.cell (World.block_lt_of_cell? w _ hx163_4)).trans hx163_4
            have HR163_4 := Aside0.mk hi163_4
            have HC163_4 := Aside0.mk hl163_4
            clear hi163_4 hl163_4
            replace p163 := eq_true p163
            replace q163 := eq_true q163
            go_wp2_with (first | (go_at_call 81; (with_reducible refine (xAu.calls kj11 ((xA2 l0_4 2).f0) ((xA2 l0_4 2).f1) ((xA2 l0_4 2).f2) ((xA2 l0_4 2).f3) _ _ ((xA2 l0_4 2).f4) (⟨#[110, 117, 109]⟩ : ByteArray) t164 _ ?side1 ?side2 A38.out m_ (by first | (with_reducible exact hmA_.out) | exact xC4 hmA_.out (by repeat (first | (with_reducible first | exact HB.out | apply xA1 | apply xA0 | apply below_drew1 | refine xA6 ?_ GE157.out) | exact HB.out)) | (repeat (first | exact hmA_.out | refine xBu ?_ | refine mlen_drew ?_)))).mono ?_); (case side1 => repeat (first | exact (Kd.C_below HR163_4.out HB.out) | (with_reducible refine Kd.C_alloc ?_ _) | (with_reducible refine Kd.C_drewN ?_ _) | (with_reducible refine Kd.C_drew ?_))); (case side2 => exact HC163_4.out); rintro e w40 ⟨rfl, hb⟩; have n0_ := Aside0.mk (xAt (g := gb157) (o := .cells #[.string a0_0, .string a0_1, .int .i64 a0_2, .int .i64 a0_3, .slice (some ad163) l0_4.length c0_4] 25 (0, 0)) (by (with_reducible repeat (first | refine xA5 ?_ _ | refine xA8 ?_ | refine xA4 ?_ _)); exact BK157.out) hb); have n1_ := Aside0.mk (xAi (by repeat (first | (with_reducible first | exact HB.out | apply xA1 | apply xA0 | apply below_drew1 | refine xA6 ?_ GE157.out) | exact HB.out)) hb); clear BK157; clear HB; have BK157 := n0_; have HB := n1_; clear n0_ n1_; (try clear hb); (try clear hb2); (try clear hk); (try clear hi)))
            go_meet
            case rel => exact ⟨_, (2), (t164), (by first | rfl | (simp; done) | (simp [*]; done)), (by first | rfl | (simp; done) | (simp [*]; done)), H', ⟨by have := HJ2.out; have := HJ11.out; first | omega | exact Nat.le_refl _⟩, ⟨by (with_reducible repeat (first | refine xA5 ?_ _ | refine xA8 ?_ | refine xA4 ?_ _)); exact BK157.out⟩, ⟨by repeat (first | (with_reducible first | exact HB.out | apply xA1 | apply xA0 | apply below_drew1 | refine xA6 ?_ GE157.out) | exact HB.out)⟩⟩
           ·rw [if_neg c37] at H
            exact absurd H (by simp)
          ·rw [if_neg c36] at H
           have c36b0 : ((l0_4.length : Int) == 3) = false := beq_eq_false_iff_ne.mpr c36
           have c36b1 : ((l0_4.length : Int) != 3) = true := bne_iff_ne.mpr c36
           have H' := Aside0.mk H
           clear H
           obtain ⟨hcz41_0, hcz41_1, hcz41_2, hcz41_3, hcz41_4, hfz41_0, hfz41_1, hfz41_2, hfz41_3, hfz41_4⟩ := ex5 BK157.out
           go_wp2
           go_meet
           case rel => exact ⟨_, (2), (false), (by first | rfl | (simp; done) | (simp [*]; done)), (by first | rfl | (simp; done) | (simp [*]; done)), H', ⟨by have := HJ2.out; have := HJ11.out; first | omega | exact Nat.le_refl _⟩, ⟨by (with_reducible repeat (first | refine xA5 ?_ _ | refine xA8 ?_ | refine xA4 ?_ _)); exact BK157.out⟩, ⟨by repeat (first | (with_reducible first | exact HB.out | apply xA1 | apply xA0 | apply below_drew1 | refine xA6 ?_ GE157.out) | exact HB.out)⟩⟩
         ·rw [if_neg c35] at H
          have c35b0 : (a0_0.toList == ([115, 110, 97, 112, 115, 104, 111, 116] : List UInt8)) = false := beq_eq_false_iff_ne.mpr c35
          have c35b1 : (a0_0.toList != ([115, 110, 97, 112, 115, 104, 111, 116] : List UInt8)) = true := bne_iff_ne.mpr c35
          have HC42 := Aside0.mk H
          clear H
          go_upto_if 70 with (fail)
          go_cut [70] (fun v70 wc => ∃ (kq : Nat) (x70_41 : Bool), v70 = .bool x70_41 ∧ Aside0 (xA7.j2 kq a1 1 true a0_0 x70_41 a0_0 a0_1 a0_2 a0_3 l0_4 = some r) ∧ Aside0 (kq ≤ kj11) ∧ Aside0 (wc.heap[gb157]? = some (.cells #[.string a0_0, .string a0_1, .int .i64 a0_2, .int .i64 a0_3, (.slice A0_4 l0_4.length c0_4)] 25 (0, 0))) ∧ Aside0 (Below w.heap.size w wc))
          case first =>
           have H := HC42.out
           clear HC42
           by_cases c43 : a0_0.toList = ([99, 114, 121, 112, 116] : List UInt8)
           ·rw [if_pos c43] at H
            have c43b0 : (a0_0.toList == ([99, 114, 121, 112, 116] : List UInt8)) = true := beq_iff_eq.mpr c43
            have c43b1 : (a0_0.toList != ([99, 114, 121, 112, 116] : List UInt8)) = false := bne_eq_false_iff_eq.mpr c43
            clear c43
            (first | rw [c43b0] | (simp only [xB0, xB1]; rw [c43b0]) | skip)
            have H' := Aside0.mk H
            clear H
            go_wp2
            go_meet
            case rel => exact ⟨_, ((a0_0.toList == ([99, 114, 121, 112, 116] : List UInt8))), (by first | rfl | (simp; done) | (simp [*]; done)), H', ⟨by have := HJ2.out; have := HJ11.out; first | omega | exact Nat.le_refl _⟩, ⟨by (with_reducible repeat (first | refine xA5 ?_ _ | refine xA8 ?_ | refine xA4 ?_ _)); exact BK157.out⟩, ⟨by repeat (first | (with_reducible first | exact HB.out | apply xA1 | apply xA0 | apply below_drew1 | refine xA6 ?_ GE157.out) | exact HB.out)⟩⟩
           ·rw [if_neg c43] at H
            have c43b0 : (a0_0.toList == ([99, 114, 121, 112, 116] : List UInt8)) = false := beq_eq_false_iff_ne.mpr c43
            have c43b1 : (a0_0.toList != ([99, 114, 121, 112, 116] : List UInt8)) = true := bne_iff_ne.mpr c43
            (first | rw [c43b0] | (simp only [xB0, xB1]; rw [c43b0]) | skip)
            by_cases c44 : a0_0.toList = ([105, 110, 116, 101, 103, 114, 105, 116, 121] : List UInt8)
            ·rw [if_pos c44] at H
             have c44b0 : (a0_0.toList == ([105, 110, 116, 101, 103, 114, 105, 116, 121] : List UInt8)) = true := beq_iff_eq.mpr c44
             have c44b1 : (a0_0.toList != ([105, 110, 116, 101, 103, 114, 105, 116, 121] : List UInt8)) = false := bne_eq_false_iff_eq.mpr c44
             clear c44
             have H' := Aside0.mk H
             clear H
             go_wp2
             go_meet
             case rel => exact ⟨_, ((a0_0.toList == ([105, 110, 116, 101, 103, 114, 105, 116, 121] : List UInt8))), (by first | rfl | (simp; done) | (simp [*]; done)), H', ⟨by have := HJ2.out; have := HJ11.out; first | omega | exact Nat.le_refl _⟩, ⟨by (with_reducible repeat (first | refine xA5 ?_ _ | refine xA8 ?_ | refine xA4 ?_ _)); exact BK157.out⟩, ⟨by repeat (first | (with_reducible first | exact HB.out | apply xA1 | apply xA0 | apply below_drew1 | refine xA6 ?_ GE157.out) | exact HB.out)⟩⟩
            ·rw [if_neg c44] at H
             have c44b0 : (a0_0.toList == ([105, 110, 116, 101, 103, 114, 105, 116, 121] : List UInt8)) = false := beq_eq_false_iff_ne.mpr c44
             have c44b1 : (a0_0.toList != ([105, 110, 116, 101, 103, 114, 105, 116, 121] : List UInt8)) = true := bne_iff_ne.mpr c44
             have H' := Aside0.mk H
             clear H
             go_wp2
             go_meet
             case rel => exact ⟨_, ((a0_0.toList == ([118, 101, 114, 105, 116, 121] : List UInt8))), (by first | rfl | (simp; done) | (simp [*]; done)), H', ⟨by have := HJ2.out; have := HJ11.out; first | omega | exact Nat.le_refl _⟩, ⟨by (with_reducible repeat (first | refine xA5 ?_ _ | refine xA8 ?_ | refine xA4 ?_ _)); exact BK157.out⟩, ⟨by repeat (first | (with_reducible first | exact HB.out | apply xA1 | apply xA0 | apply below_drew1 | refine xA6 ?_ GE157.out) | exact HB.out)⟩⟩
          case rest =>
           clear HC42
           try clear c1
           try clear p1
           try clear q1
           try clear hx1
           try clear qi1
           try clear c2
           try clear p2
           try clear c3
           try clear c4
           try clear c5
           try clear c5b0
           try clear c7
           try clear c8
           try clear c8b0
           try clear c13
           try clear c13b0
           try clear c13b1
           try clear c14
           try clear c14b0
           try clear c14b1
           try clear c15
           try clear p15
           try clear q15
           try clear hx15
           try clear qi15
           try clear c16
           try clear p16
           try clear q16
           try clear hx16
           try clear qi16
           try clear c18
           try clear c21
           try clear c21b0
           try clear c21b1
           try clear c22
           try clear c22b0
           try clear c22b1
           try clear c23
           try clear c23b0
           try clear c23b1
           try clear c25
           try clear c26
           try clear c26b0
           try clear c26b1
           try clear c35
           try clear c35b0
           try clear c35b1
           try clear c36
           try clear c36b0
           try clear c36b1
           try clear c37
           try clear c37b0
           try clear c37b1
           try clear c43
           try clear c43b0
           try clear c43b1
           try clear c44
           try clear c44b0
           try clear c44b1
           try clear hcz10_0 hcz10_1 hcz10_2 hcz10_3 hcz10_4
           try clear hcz15_0 hcz15_1 hcz15_2 hcz15_3 hcz15_4
           try clear hcz16_0 hcz16_1 hcz16_2 hcz16_3 hcz16_4
           try clear hcz17_0 hcz17_1 hcz17_2 hcz17_3 hcz17_4
           try clear hcz20_0 hcz20_1 hcz20_2 hcz20_3 hcz20_4
           try clear hcz28_0 hcz28_1 hcz28_2 hcz28_3 hcz28_4
           try clear hcz30_0 hcz30_1 hcz30_2 hcz30_3 hcz30_4
           try clear hcz32_0 hcz32_1 hcz32_2 hcz32_3 hcz32_4
           try clear hcz34_0 hcz34_1 hcz34_2 hcz34_3 hcz34_4
           try clear hcz39_0 hcz39_1 hcz39_2 hcz39_3 hcz39_4
           try clear hcz41_0 hcz41_1 hcz41_2 hcz41_3 hcz41_4
           try clear hcz6_0 hcz6_1 hcz6_2 hcz6_3 hcz6_4
           try clear hfz10_0 hfz10_1 hfz10_2 hfz10_3 hfz10_4
           try clear hfz15_0 hfz15_1 hfz15_2 hfz15_3 hfz15_4
           try clear hfz16_0 hfz16_1 hfz16_2 hfz16_3 hfz16_4
           try clear hfz17_0 hfz17_1 hfz17_2 hfz17_3 hfz17_4
           try clear hfz20_0 hfz20_1 hfz20_2 hfz20_3 hfz20_4
           try clear hfz28_0 hfz28_1 hfz28_2 hfz28_3 hfz28_4
           try clear hfz30_0 hfz30_1 hfz30_2 hfz30_3 hfz30_4
           try clear hfz32_0 hfz32_1 hfz32_2 hfz32_3 hfz32_4
           try clear hfz34_0 hfz34_1 hfz34_2 hfz34_3 hfz34_4
           try clear hfz39_0 hfz39_1 hfz39_2 hfz39_3 hfz39_4
           try clear hfz41_0 hfz41_1 hfz41_2 hfz41_3 hfz41_4
           try clear hfz6_0 hfz6_1 hfz6_2 hfz6_3 hfz6_4
           try clear hx159_0 hx159_1 hx159_2 hx159_3 hx159_4
           try clear hx161_0 hx161_1 hx161_2 hx161_3 hx161_4
           try clear hx163_0 hx163_1 hx163_2 hx163_3 hx163_4
           try clear p159
           try clear p161
           try clear p163
           try clear p2
           try clear q159
           try clear q161
           try clear q163
           obtain ⟨kq, x70_41, rfl, HA, HJ41, BK157, HB⟩ := hcut
           cases kq with
           | zero => exact absurd HA.out (by simp [xA7.j2])
           | succ kj41 =>
            have H := HA.out
            clear HA
            simp only [xA7.j2] at H
            by_cases c45 : x70_41 = true
            ·subst c45
             have H1 : (if (l0_4.length : Int) = 2 then (if 1 < (l0_4.length : Int) then ((xAu.f kj41 ((xA2 l0_4 1).f0) ((xA2 l0_4 1).f1) ((xA2 l0_4 1).f2) ((xA2 l0_4 1).f3) ((xA2 l0_4 1).f4) (⟨#[110, 97, 109, 101]⟩ : ByteArray)).bind fun t166 => (xA7.j3 kj41 a1 1 t166 a0_0 a0_1 a0_2 a0_3 l0_4)) else (none)) else (xA7.j3 kj41 a1 1 false a0_0 a0_1 a0_2 a0_3 l0_4)) = some r := by rw [if_pos rfl] at H; exact H
             clear H
             have H := H1
             clear H1
             by_cases c46 : (l0_4.length : Int) = 2
             ·rw [if_pos c46] at H
              have c46b0 : ((l0_4.length : Int) == 2) = true := beq_iff_eq.mpr c46
              have c46b1 : ((l0_4.length : Int) != 2) = false := bne_eq_false_iff_eq.mpr c46
              clear c46
              by_cases c47 : 1 < (l0_4.length : Int)
              ·rw [if_pos c47] at H
               have c47b0 : decide (1 < (l0_4.length : Int)) = true := decide_eq_true c47
               have c47b1 : decide (1 < l0_4.length) = true := decide_eq_true (by omega)
               clear c47
               replace H := Option.bind_eq_some_iff.mp H
               obtain ⟨t166, A480, H⟩ := H
               replace H : (xA7.j3 kj41 a1 1 t166 a0_0 a0_1 a0_2 a0_3 l0_4) = some r := H
               have A48 := Aside0.mk A480
               clear A480
               have H' := Aside0.mk H
               clear H
               obtain ⟨hcz49_0, hcz49_1, hcz49_2, hcz49_3, hcz49_4, hfz49_0, hfz49_1, hfz49_2, hfz49_3, hfz49_4⟩ := ex5 BK157.out
               have p165 : 0 ≤ (1 : Int) := (by omega)
               have q165 : 1 < (l0_4.length : Int) := of_decide_eq_true (by first | (with_reducible assumption) | assumption)
               obtain ⟨ad165, A165_4, c165_4, e165, hx165_0, hx165_1, hx165_2, hx165_3, hx165_4, hl165_4, hi165_4⟩ := xC3 HR0_4.out 1 p165 q165
               cases e165
               (try simp only [show (1 : Int).toNat = 1 from rfl, Nat.reduceMul, Nat.reduceEqDiff, Go.Addr.add, ↓reduceIte] at hx165_0 hx165_1 hx165_2 hx165_3 hx165_4)
               have qi165 : (1 < l0_4.length) = True := eq_true (by omega)
               (try rw [show ((1 : Int)).toNat = 1 from rfl] at hx165_0)
               (try rw [show 1 * 5 = 5 from rfl] at hx165_0)
               (try rw [show ((1 : Int)).toNat = 1 from rfl] at hx165_1)
               (try rw [show 1 * 5 = 5 from rfl] at hx165_1)
               (try rw [show ((1 : Int)).toNat = 1 from rfl] at hx165_2)
               (try rw [show 1 * 5 = 5 from rfl] at hx165_2)
               (try rw [show ((1 : Int)).toNat = 1 from rfl] at hx165_3)
               (try rw [show 1 * 5 = 5 from rfl] at hx165_3)
               (try rw [show ((1 : Int)).toNat = 1 from rfl] at hx165_4)
               (try rw [show 1 * 5 = 5 from rfl] at hx165_4)
               replace hx165_0 := (HB.out.cell (World.block_lt_of_cell? w _ hx165_0)).trans hx165_0
               replace hx165_1 := (HB.out.cell (World.block_lt_of_cell? w _ hx165_1)).trans hx165_1
               replace hx165_2 := (HB.out.cell (World.block_lt_of_cell? w _ hx165_2)).trans hx165_2
               replace hx165_3 := (HB.out.cell (World.block_lt_of_cell? w _ hx165_3)).trans hx165_3
               replace hx165_4 := (HB.out.cell (World.block_lt_of_cell? w _ hx165_4)).trans hx165_4
               have HR165_4 := Aside0.mk hi165_4
               have HC165_4 := Aside0.mk hl165_4
               clear hi165_4 hl165_4
               replace p165 := eq_true p165
               replace q165 := eq_true q165
               go_wp2_with (first | (go_at_call 81; (with_reducible refine (xAu.calls kj41 ((xA2 l0_4 1).f0) ((xA2 l0_4 1).f1) ((xA2 l0_4 1).f2) ((xA2 l0_4 1).f3) _ _ ((xA2 l0_4 1).f4) (⟨#[110, 97, 109, 101]⟩ : ByteArray) t166 _ ?side1 ?side2 A48.out m_ (by first | (with_reducible exact hmA_.out) | exact xC4 hmA_.out (by repeat (first | (with_reducible first | exact HB.out | apply xA1 | apply xA0 | apply below_drew1 | refine xA6 ?_ GE157.out) | exact HB.out)) | (repeat (first | exact hmA_.out | refine xBu ?_ | refine mlen_drew ?_)))).mono ?_); (case side1 => repeat (first | exact (Kd.C_below HR165_4.out HB.out) | (with_reducible refine Kd.C_alloc ?_ _) | (with_reducible refine Kd.C_drewN ?_ _) | (with_reducible refine Kd.C_drew ?_))); (case side2 => exact HC165_4.out); rintro e w50 ⟨rfl, hb⟩; have n0_ := Aside0.mk (xAt (g := gb157) (o := .cells #[.string a0_0, .string a0_1, .int .i64 a0_2, .int .i64 a0_3, .slice (some ad165) l0_4.length c0_4] 25 (0, 0)) (by (with_reducible repeat (first | refine xA5 ?_ _ | refine xA8 ?_ | refine xA4 ?_ _)); exact BK157.out) hb); have n1_ := Aside0.mk (xAi (by repeat (first | (with_reducible first | exact HB.out | apply xA1 | apply xA0 | apply below_drew1 | refine xA6 ?_ GE157.out) | exact HB.out)) hb); clear BK157; clear HB; have BK157 := n0_; have HB := n1_; clear n0_ n1_; (try clear hb); (try clear hb2); (try clear hk); (try clear hi)))
               go_meet
               case rel => exact ⟨_, (1), (t166), (by first | rfl | (simp; done) | (simp [*]; done)), (by first | rfl | (simp; done) | (simp [*]; done)), H', ⟨by have := HJ2.out; have := HJ11.out; have := HJ41.out; first | omega | exact Nat.le_refl _⟩, ⟨by (with_reducible repeat (first | refine xA5 ?_ _ | refine xA8 ?_ | refine xA4 ?_ _)); exact BK157.out⟩, ⟨by repeat (first | (with_reducible first | exact HB.out | apply xA1 | apply xA0 | apply below_drew1 | refine xA6 ?_ GE157.out) | exact HB.out)⟩⟩
              ·rw [if_neg c47] at H
               exact absurd H (by simp)
             ·rw [if_neg c46] at H
              have c46b0 : ((l0_4.length : Int) == 2) = false := beq_eq_false_iff_ne.mpr c46
              have c46b1 : ((l0_4.length : Int) != 2) = true := bne_iff_ne.mpr c46
              have H' := Aside0.mk H
              clear H
              obtain ⟨hcz51_0, hcz51_1, hcz51_2, hcz51_3, hcz51_4, hfz51_0, hfz51_1, hfz51_2, hfz51_3, hfz51_4⟩ := ex5 BK157.out
              go_wp2
              go_meet
              case rel => exact ⟨_, (1), (false), (by first | rfl | (simp; done) | (simp [*]; done)), (by first | rfl | (simp; done) | (simp [*]; done)), H', ⟨by have := HJ2.out; have := HJ11.out; have := HJ41.out; first | omega | exact Nat.le_refl _⟩, ⟨by (with_reducible repeat (first | refine xA5 ?_ _ | refine xA8 ?_ | refine xA4 ?_ _)); exact BK157.out⟩, ⟨by repeat (first | (with_reducible first | exact HB.out | apply xA1 | apply xA0 | apply below_drew1 | refine xA6 ?_ GE157.out) | exact HB.out)⟩⟩
            ·replace c45 := Bool.eq_false_iff.mpr c45
             subst c45
             have H1 : (if a0_0.toList = ([99, 111, 110, 99, 97, 116] : List UInt8) then (xA7.j3 kj41 a1 (l0_4.length : Int) true a0_0 a0_1 a0_2 a0_3 l0_4) else (if a0_0.toList = ([109, 105, 114, 114, 111, 114] : List UInt8) then (xA7.j3 kj41 a1 (l0_4.length : Int) true a0_0 a0_1 a0_2 a0_3 l0_4) else (xA7.j3 kj41 a1 1 false a0_0 a0_1 a0_2 a0_3 l0_4))) = some r := by rw [if_neg (show ¬ (false = true) by decide)] at H; exact H
             clear H
             have H := H1
             clear H1
             by_cases c52 : a0_0.toList = ([99, 111, 110, 99, 97, 116] : List UInt8)
             ·rw [if_pos c52] at H
              have c52b0 : (a0_0.toList == ([99, 111, 110, 99, 97, 116] : List UInt8)) = true := beq_iff_eq.mpr c52
              have c52b1 : (a0_0.toList != ([99, 111, 110, 99, 97, 116] : List UInt8)) = false := bne_eq_false_iff_eq.mpr c52
              clear c52
              have H' := Aside0.mk H
              clear H
              obtain ⟨hcz53_0, hcz53_1, hcz53_2, hcz53_3, hcz53_4, hfz53_0, hfz53_1, hfz53_2, hfz53_3, hfz53_4⟩ := ex5 BK157.out
              go_wp2
              go_meet
              case rel => exact ⟨_, ((l0_4.length : Int)), (true), (by first | rfl | (simp; done) | (simp [*]; done)), (by first | rfl | (simp; done) | (simp [*]; done)), H', ⟨by have := HJ2.out; have := HJ11.out; have := HJ41.out; first | omega | exact Nat.le_refl _⟩, ⟨by (with_reducible repeat (first | refine xA5 ?_ _ | refine xA8 ?_ | refine xA4 ?_ _)); exact BK157.out⟩, ⟨by repeat (first | (with_reducible first | exact HB.out | apply xA1 | apply xA0 | apply below_drew1 | refine xA6 ?_ GE157.out) | exact HB.out)⟩⟩
             ·rw [if_neg c52] at H
              have c52b0 : (a0_0.toList == ([99, 111, 110, 99, 97, 116] : List UInt8)) = false := beq_eq_false_iff_ne.mpr c52
              have c52b1 : (a0_0.toList != ([99, 111, 110, 99, 97, 116] : List UInt8)) = true := bne_iff_ne.mpr c52
              by_cases c54 : a0_0.toList = ([109, 105, 114, 114, 111, 114] : List UInt8)
              ·rw [if_pos c54] at H
               have c54b0 : (a0_0.toList == ([109, 105, 114, 114, 111, 114] : List UInt8)) = true := beq_iff_eq.mpr c54
               have c54b1 : (a0_0.toList != ([109, 105, 114, 114, 111, 114] : List UInt8)) = false := bne_eq_false_iff_eq.mpr c54
               clear c54
               have H' := Aside0.mk H
               clear H
               obtain ⟨hcz55_0, hcz55_1, hcz55_2, hcz55_3, hcz55_4, hfz55_0, hfz55_1, hfz55_2, hfz55_3, hfz55_4⟩ := ex5 BK157.out
               go_wp2
               go_meet
               case rel => exact ⟨_, ((l0_4.length : Int)), (true), (by first | rfl | (simp; done) | (simp [*]; done)), (by first | rfl | (simp; done) | (simp [*]; done)), H', ⟨by have := HJ2.out; have := HJ11.out; have := HJ41.out; first | omega | exact Nat.le_refl _⟩, ⟨by (with_reducible repeat (first | refine xA5 ?_ _ | refine xA8 ?_ | refine xA4 ?_ _)); exact BK157.out⟩, ⟨by repeat (first | (with_reducible first | exact HB.out | apply xA1 | apply xA0 | apply below_drew1 | refine xA6 ?_ GE157.out) | exact HB.out)⟩⟩
              ·rw [if_neg c54] at H
               have c54b0 : (a0_0.toList == ([109, 105, 114, 114, 111, 114] : List UInt8)) = false := beq_eq_false_iff_ne.mpr c54
               have c54b1 : (a0_0.toList != ([109, 105, 114, 114, 111, 114] : List UInt8)) = true := bne_iff_ne.mpr c54
               have H' := Aside0.mk H
               clear H
               go_wp2
               go_meet
               case rel => exact ⟨_, (1), (false), (by first | rfl | (simp; done) | (simp [*]; done)), (by first | rfl | (simp; done) | (simp [*]; done)), H', ⟨by have := HJ2.out; have := HJ11.out; have := HJ41.out; first | omega | exact Nat.le_refl _⟩, ⟨by (with_reducible repeat (first | refine xA5 ?_ _ | refine xA8 ?_ | refine xA4 ?_ _)); exact BK157.out⟩, ⟨by repeat (first | (with_reducible first | exact HB.out | apply xA1 | apply xA0 | apply below_drew1 | refine xA6 ?_ GE157.out) | exact HB.out)⟩⟩
       case rest =>
        clear HC19
        try clear c1
        try clear p1
        try clear q1
        try clear hx1
        try clear qi1
        try clear c2
        try clear p2
        try clear c3
        try clear c4
        try clear c5
        try clear c5b0
        try clear c7
        try clear c8
        try clear c8b0
        try clear c13
        try clear c13b0
        try clear c13b1
        try clear c14
        try clear c14b0
        try clear c14b1
        try clear c15
        try clear p15
        try clear q15
        try clear hx15
        try clear qi15
        try clear c16
        try clear p16
        try clear q16
        try clear hx16
        try clear qi16
        try clear c18
        try clear c21
        try clear c21b0
        try clear c21b1
        try clear c22
        try clear c22b0
        try clear c22b1
        try clear c23
        try clear c23b0
        try clear c23b1
        try clear c25
        try clear c26
        try clear c26b0
        try clear c26b1
        try clear c35
        try clear c35b0
        try clear c35b1
        try clear c36
        try clear c36b0
        try clear c36b1
        try clear c37
        try clear c37b0
        try clear c37b1
        try clear c43
        try clear c43b0
        try clear c43b1
        try clear c44
        try clear c44b0
        try clear c44b1
        try clear c45
        try clear c46
        try clear c46b0
        try clear c46b1
        try clear c47
        try clear c47b0
        try clear c47b1
        try clear c52
        try clear c52b0
        try clear c52b1
        try clear c54
        try clear c54b0
        try clear c54b1
        try clear hcz10_0 hcz10_1 hcz10_2 hcz10_3 hcz10_4
        try clear hcz15_0 hcz15_1 hcz15_2 hcz15_3 hcz15_4
        try clear hcz16_0 hcz16_1 hcz16_2 hcz16_3 hcz16_4
        try clear hcz17_0 hcz17_1 hcz17_2 hcz17_3 hcz17_4
        try clear hcz20_0 hcz20_1 hcz20_2 hcz20_3 hcz20_4
        try clear hcz28_0 hcz28_1 hcz28_2 hcz28_3 hcz28_4
        try clear hcz30_0 hcz30_1 hcz30_2 hcz30_3 hcz30_4
        try clear hcz32_0 hcz32_1 hcz32_2 hcz32_3 hcz32_4
        try clear hcz34_0 hcz34_1 hcz34_2 hcz34_3 hcz34_4
        try clear hcz39_0 hcz39_1 hcz39_2 hcz39_3 hcz39_4
        try clear hcz41_0 hcz41_1 hcz41_2 hcz41_3 hcz41_4
        try clear hcz49_0 hcz49_1 hcz49_2 hcz49_3 hcz49_4
        try clear hcz51_0 hcz51_1 hcz51_2 hcz51_3 hcz51_4
        try clear hcz53_0 hcz53_1 hcz53_2 hcz53_3 hcz53_4
        try clear hcz55_0 hcz55_1 hcz55_2 hcz55_3 hcz55_4
        try clear hcz6_0 hcz6_1 hcz6_2 hcz6_3 hcz6_4
        try clear hfz10_0 hfz10_1 hfz10_2 hfz10_3 hfz10_4
        try clear hfz15_0 hfz15_1 hfz15_2 hfz15_3 hfz15_4
        try clear hfz16_0 hfz16_1 hfz16_2 hfz16_3 hfz16_4
        try clear hfz17_0 hfz17_1 hfz17_2 hfz17_3 hfz17_4
        try clear hfz20_0 hfz20_1 hfz20_2 hfz20_3 hfz20_4
        try clear hfz28_0 hfz28_1 hfz28_2 hfz28_3 hfz28_4
        try clear hfz30_0 hfz30_1 hfz30_2 hfz30_3 hfz30_4
        try clear hfz32_0 hfz32_1 hfz32_2 hfz32_3 hfz32_4
        try clear hfz34_0 hfz34_1 hfz34_2 hfz34_3 hfz34_4
        try clear hfz39_0 hfz39_1 hfz39_2 hfz39_3 hfz39_4
        try clear hfz41_0 hfz41_1 hfz41_2 hfz41_3 hfz41_4
        try clear hfz49_0 hfz49_1 hfz49_2 hfz49_3 hfz49_4
        try clear hfz51_0 hfz51_1 hfz51_2 hfz51_3 hfz51_4
        try clear hfz53_0 hfz53_1 hfz53_2 hfz53_3 hfz53_4
        try clear hfz55_0 hfz55_1 hfz55_2 hfz55_3 hfz55_4
        try clear hfz6_0 hfz6_1 hfz6_2 hfz6_3 hfz6_4
        try clear hx159_0 hx159_1 hx159_2 hx159_3 hx159_4
        try clear hx161_0 hx161_1 hx161_2 hx161_3 hx161_4
        try clear hx163_0 hx163_1 hx163_2 hx163_3 hx163_4
        try clear hx165_0 hx165_1 hx165_2 hx165_3 hx165_4
        try clear p1
        try clear p15
        try clear p159
        try clear p16
        try clear p161
        try clear p163
        try clear p165
        try clear p2
        try clear q1
        try clear q15
        try clear q159
        try clear q16
        try clear q161
        try clear q163
        try clear q165
        obtain ⟨kq, x5_18, x6_18, rfl, rfl, HA, HJ18, BK157, HB⟩ := hcut
        cases kq with
        | zero => exact absurd HA.out (by simp [xA7.j3])
        | succ kj18 =>
         have H := HA.out
         clear HA
         simp only [xA7.j3] at H
         have H' := Aside0.mk H
         clear H
         go_wp2
         go_loopg [6, 7] kj18 (fun kq v6 v7 w' => ∃ (x6_4 : Bool) (x7_4 : Int), v6 = .bool x6_4 ∧ v7 = .int .i64 x7_4 ∧ Aside0 (xA7.l0 kq a1 x5_18 x6_4 x7_4 a0_0 a0_1 a0_2 a0_3 l0_4 = some r) ∧ Aside0 (kq ≤ kj18) ∧ Aside0 (w'.heap[gb157]? = some (.cells #[.string a0_0, .string a0_1, .int .i64 a0_2, .int .i64 a0_3, (.slice A0_4 l0_4.length c0_4)] 25 (0, 0))) ∧ Aside0 (Below w.heap.size w w'))
         case atStart => exact ⟨(x6_18), (0), (by first | rfl | (simp; done) | (simp [*]; done)), (by first | rfl | (simp; done) | (simp [*]; done)), H', ⟨Nat.le_refl _⟩, ⟨by (with_reducible repeat (first | refine xA5 ?_ _ | refine xA8 ?_ | refine xA4 ?_ _)); exact BK157.out⟩, ⟨by repeat (first | (with_reducible first | exact HB.out | apply xA1 | apply xA0 | apply below_drew1 | refine xA6 ?_ GE157.out) | exact HB.out)⟩⟩
         case round =>
          clear H'
          try clear c1
          try clear p1
          try clear q1
          try clear hx1
          try clear qi1
          try clear c2
          try clear p2
          try clear c3
          try clear c4
          try clear c5
          try clear c5b0
          try clear c7
          try clear c8
          try clear c8b0
          try clear c13
          try clear c13b0
          try clear c13b1
          try clear c14
          try clear c14b0
          try clear c14b1
          try clear c15
          try clear p15
          try clear q15
          try clear hx15
          try clear qi15
          try clear c16
          try clear p16
          try clear q16
          try clear hx16
          try clear qi16
          try clear c18
          try clear c21
          try clear c21b0
          try clear c21b1
          try clear c22
          try clear c22b0
          try clear c22b1
          try clear c23
          try clear c23b0
          try clear c23b1
          try clear c25
          try clear c26
          try clear c26b0
          try clear c26b1
          try clear c35
          try clear c35b0
          try clear c35b1
          try clear c36
          try clear c36b0
          try clear c36b1
          try clear c37
          try clear c37b0
          try clear c37b1
          try clear c43
          try clear c43b0
          try clear c43b1
          try clear c44
          try clear c44b0
          try clear c44b1
          try clear c45
          try clear c46
          try clear c46b0
          try clear c46b1
          try clear c47
          try clear c47b0
          try clear c47b1
          try clear c52
          try clear c52b0
          try clear c52b1
          try clear c54
          try clear c54b0
          try clear c54b1
          try clear hcz10_0 hcz10_1 hcz10_2 hcz10_3 hcz10_4
          try clear hcz15_0 hcz15_1 hcz15_2 hcz15_3 hcz15_4
          try clear hcz16_0 hcz16_1 hcz16_2 hcz16_3 hcz16_4
          try clear hcz17_0 hcz17_1 hcz17_2 hcz17_3 hcz17_4
          try clear hcz20_0 hcz20_1 hcz20_2 hcz20_3 hcz20_4
          try clear hcz28_0 hcz28_1 hcz28_2 hcz28_3 hcz28_4
          try clear hcz30_0 hcz30_1 hcz30_2 hcz30_3 hcz30_4
          try clear hcz32_0 hcz32_1 hcz32_2 hcz32_3 hcz32_4
          try clear hcz34_0 hcz34_1 hcz34_2 hcz34_3 hcz34_4
          try clear hcz39_0 hcz39_1 hcz39_2 hcz39_3 hcz39_4
          try clear hcz41_0 hcz41_1 hcz41_2 hcz41_3 hcz41_4
          try clear hcz49_0 hcz49_1 hcz49_2 hcz49_3 hcz49_4
          try clear hcz51_0 hcz51_1 hcz51_2 hcz51_3 hcz51_4
          try clear hcz53_0 hcz53_1 hcz53_2 hcz53_3 hcz53_4
          try clear hcz55_0 hcz55_1 hcz55_2 hcz55_3 hcz55_4
          try clear hcz6_0 hcz6_1 hcz6_2 hcz6_3 hcz6_4
          try clear hfz10_0 hfz10_1 hfz10_2 hfz10_3 hfz10_4
          try clear hfz15_0 hfz15_1 hfz15_2 hfz15_3 hfz15_4
          try clear hfz16_0 hfz16_1 hfz16_2 hfz16_3 hfz16_4
          try clear hfz17_0 hfz17_1 hfz17_2 hfz17_3 hfz17_4
          try clear hfz20_0 hfz20_1 hfz20_2 hfz20_3 hfz20_4
          try clear hfz28_0 hfz28_1 hfz28_2 hfz28_3 hfz28_4
          try clear hfz30_0 hfz30_1 hfz30_2 hfz30_3 hfz30_4
          try clear hfz32_0 hfz32_1 hfz32_2 hfz32_3 hfz32_4
          try clear hfz34_0 hfz34_1 hfz34_2 hfz34_3 hfz34_4
          try clear hfz39_0 hfz39_1 hfz39_2 hfz39_3 hfz39_4
          try clear hfz41_0 hfz41_1 hfz41_2 hfz41_3 hfz41_4
          try clear hfz49_0 hfz49_1 hfz49_2 hfz49_3 hfz49_4
          try clear hfz51_0 hfz51_1 hfz51_2 hfz51_3 hfz51_4
          try clear hfz53_0 hfz53_1 hfz53_2 hfz53_3 hfz53_4
          try clear hfz55_0 hfz55_1 hfz55_2 hfz55_3 hfz55_4
          try clear hfz6_0 hfz6_1 hfz6_2 hfz6_3 hfz6_4
          try clear hx159_0 hx159_1 hx159_2 hx159_3 hx159_4
          try clear hx161_0 hx161_1 hx161_2 hx161_3 hx161_4
          try clear hx163_0 hx163_1 hx163_2 hx163_3 hx163_4
          try clear hx165_0 hx165_1 hx165_2 hx165_3 hx165_4
          try clear p1
          try clear p15
          try clear p159
          try clear p16
          try clear p161
          try clear p163
          try clear p165
          try clear p2
          try clear q1
          try clear q15
          try clear q159
          try clear q16
          try clear q161
          try clear q163
          try clear q165
          obtain ⟨x6_4, x7_4, rfl, rfl, HA, HK4, BK157, HB⟩ := hrel
          cases gk with
          | zero => exact absurd HA.out (by simp [xA7.l0])
          | succ k4 =>
           have H := HA.out
           clear HA
           simp only [xA7.l0] at H
           by_cases c56 : x6_4 = true
           ·subst c56
            have H1 : (if x7_4 < x5_18 then (if 0 ≤ x7_4 then (if x7_4 < (l0_4.length : Int) then ((xA7.f k4 ((xA2 l0_4 x7_4).f0) ((xA2 l0_4 x7_4).f1) ((xA2 l0_4 x7_4).f2) ((xA2 l0_4 x7_4).f3) ((xA2 l0_4 x7_4).f4) (wrap64 (a1 + 1))).bind fun t168 => (xA7.l0 k4 a1 x5_18 t168 (wrap64 (x7_4 + 1)) a0_0 a0_1 a0_2 a0_3 l0_4)) else (none)) else (none)) else (some true)) = some r := by rw [if_pos rfl] at H; exact H
            clear H
            have H := H1
            clear H1
            by_cases c57 : x7_4 < x5_18
            ·rw [if_pos c57] at H
             have c57b0 : decide (x7_4 < x5_18) = true := decide_eq_true c57
             clear c57
             by_cases c58 : 0 ≤ x7_4
             ·rw [if_pos c58] at H
              have c58b0 : decide (0 ≤ x7_4) = true := decide_eq_true c58
              clear c58
              by_cases c59 : x7_4 < (l0_4.length : Int)
              ·rw [if_pos c59] at H
               have c59b0 : decide (x7_4 < (l0_4.length : Int)) = true := decide_eq_true c59
               clear c59
               replace H := Option.bind_eq_some_iff.mp H
               obtain ⟨t168, A600, H⟩ := H
               replace H : (xA7.l0 k4 a1 x5_18 t168 (wrap64 (x7_4 + 1)) a0_0 a0_1 a0_2 a0_3 l0_4) = some r := H
               have A60 := Aside0.mk A600
               clear A600
               have H' := Aside0.mk H
               clear H
               obtain ⟨hcz61_0, hcz61_1, hcz61_2, hcz61_3, hcz61_4, hfz61_0, hfz61_1, hfz61_2, hfz61_3, hfz61_4⟩ := ex5 BK157.out
               have p167 : 0 ≤ (x7_4 : Int) := of_decide_eq_true (by first | (with_reducible assumption) | assumption)
               have q167 : x7_4 < (l0_4.length : Int) := of_decide_eq_true (by first | (with_reducible assumption) | assumption)
               obtain ⟨ad167, A167_4, c167_4, e167, hx167_0, hx167_1, hx167_2, hx167_3, hx167_4, hl167_4, hi167_4⟩ := xC3 HR0_4.out x7_4 p167 q167
               cases e167
               replace hx167_0 := (HB.out.cell (World.block_lt_of_cell? w _ hx167_0)).trans hx167_0
               replace hx167_1 := (HB.out.cell (World.block_lt_of_cell? w _ hx167_1)).trans hx167_1
               replace hx167_2 := (HB.out.cell (World.block_lt_of_cell? w _ hx167_2)).trans hx167_2
               replace hx167_3 := (HB.out.cell (World.block_lt_of_cell? w _ hx167_3)).trans hx167_3
               replace hx167_4 := (HB.out.cell (World.block_lt_of_cell? w _ hx167_4)).trans hx167_4
               have HR167_4 := Aside0.mk hi167_4
               have HC167_4 := Aside0.mk hl167_4
               clear hi167_4 hl167_4
               replace p167 := eq_true p167
               replace q167 := eq_true q167
               go_wp2_with (first | ((with_reducible refine xAj (f := 54) rfl ?_); refine xB6 (some 106) rfl rfl Tryd.func54 (by kernel_rfl) rfl #[.agg #[.string ((xA2 l0_4 x7_4).f0), .string ((xA2 l0_4 x7_4).f1), .int .i64 ((xA2 l0_4 x7_4).f2), .int .i64 ((xA2 l0_4 x7_4).f3), .slice A167_4 ((xA2 l0_4 x7_4).f4).length c167_4], .int .i64 (wrap64 (a1 + 1))] rfl (by (try simp only [List.map_toArray, List.map_cons, List.map_nil]); first | done | rfl | (simp only [List.length_drop, List.length_take]; rfl)) ?_; (with_reducible refine (ih k4 (by have := HJ2.out; have := HJ11.out; have := HJ18.out; have := HK4.out; omega) ((xA2 l0_4 x7_4).f0) ((xA2 l0_4 x7_4).f1) ((xA2 l0_4 x7_4).f2) ((xA2 l0_4 x7_4).f3) _ _ ((xA2 l0_4 x7_4).f4) (wrap64 (a1 + 1)) t168 _ ?side1 ?side2 A60.out m_ (by first | (with_reducible exact hmA_.out) | exact xC4 hmA_.out (by repeat (first | (with_reducible first | exact HB.out | apply xA1 | apply xA0 | apply below_drew1 | refine xA6 ?_ GE157.out) | exact HB.out)) | (repeat (first | exact hmA_.out | refine xBu ?_ | refine mlen_drew ?_)))).mono ?_); (case side1 => repeat (first | exact (Kd.C_below HR167_4.out HB.out) | (with_reducible refine Kd.C_alloc ?_ _) | (with_reducible refine Kd.C_drewN ?_ _) | (with_reducible refine Kd.C_drew ?_))); (case side2 => exact HC167_4.out); rintro e w62 ⟨rfl, hb⟩; refine ⟨_, rfl, ?_⟩; have n0_ := Aside0.mk (xAt (g := gb157) (o := .cells #[.string a0_0, .string a0_1, .int .i64 a0_2, .int .i64 a0_3, .slice (some ad167) l0_4.length c0_4] 25 (0, 0)) (by (with_reducible repeat (first | refine xA5 ?_ _ | refine xA8 ?_ | refine xA4 ?_ _)); exact BK157.out) hb); have n1_ := Aside0.mk (xAi (by repeat (first | (with_reducible first | exact HB.out | apply xA1 | apply xA0 | apply below_drew1 | refine xA6 ?_ GE157.out) | exact HB.out)) hb); clear BK157; clear HB; have BK157 := n0_; have HB := n1_; clear n0_ n1_; (try clear hb); (try clear hb2); (try clear hk); (try clear hi)))
               go_roundg k4
               case measure => have := HJ2.out; have := HJ11.out; have := HJ18.out; have := HK4.out; omega
               case rel => exact ⟨(t168), (wrap64 (x7_4 + 1)), (by first | rfl | (simp; done) | (simp [*]; done)), (by first | rfl | (simp; done) | (simp [*]; done)), H', ⟨by have := HJ2.out; have := HJ11.out; have := HJ18.out; have := HK4.out; omega⟩, ⟨by (with_reducible repeat (first | refine xA5 ?_ _ | refine xA8 ?_ | refine xA4 ?_ _)); exact BK157.out⟩, ⟨by repeat (first | (with_reducible first | exact HB.out | apply xA1 | apply xA0 | apply below_drew1 | refine xA6 ?_ GE157.out) | exact HB.out)⟩⟩
              ·rw [if_neg c59] at H
               exact absurd H (by simp)
             ·rw [if_neg c58] at H
              exact absurd H (by simp)
            ·rw [if_neg c57] at H
             have c57b0 : decide (x7_4 < x5_18) = false := decide_eq_false c57
             clear c57
             obtain rfl := Option.some.inj H
             go_wp2
             go_ret
             exact ⟨by first | rfl | (simp <;> rfl) | (simp [*] <;> rfl), by repeat (first | (with_reducible first | exact HB.out | apply xA1 | apply xA0 | apply below_drew1 | refine xA6 ?_ GE157.out) | exact HB.out)⟩
           ·replace c56 := Bool.eq_false_iff.mpr c56
            subst c56
            have H1 : (some false) = some r := by rw [if_neg (show ¬ (false = true) by decide)] at H; exact H
            clear H
            have H := H1
            clear H1
            obtain rfl := Option.some.inj H
            go_wp2
            go_ret
            exact ⟨by first | rfl | (simp <;> rfl) | (simp [*] <;> rfl), by repeat (first | (with_reducible first | exact HB.out | apply xA1 | apply xA0 | apply below_drew1 | refine xA6 ?_ GE157.out) | exact HB.out)⟩

end Go.Proofs.YtknbfhhmjbnemaaDoor.P
end
section
namespace Go.Proofs.YtknbfhhmjbnemaaDoor.P
open Go.RowKit Go.Proofs.YtknbfhhmjbnemaaDoorW.PrintWords Go.Proofs.YtknbfhhmjbnemaaDoorW.PrintLast Go.Proofs.YtknbfhhmjbnemaaDoorW.PrintMore
attribute [local go_sem] xB9 xBe

/-! ### xBz: function 53 -/
def xBz.f (k : Nat) (a0 : ByteArray) : Option (Bool) := if 1 + a0.size ≤ 9223372036854775807 then ((xB4.f k ((⟨#[36]⟩ : ByteArray) ++ a0)).bind fun bt147 => (if bt147.2.1 = 0 then (if (bt147.1.length : Int) = 1 then (if 0 < (bt147.1.length : Int) then (if ((xB8 bt147.1 0).f0) = 2 then (some (((xB8 bt147.1 0).f1).toList == a0.toList)) else (some false)) else (none)) else (some false)) else (some false))) else (none)
theorem xBz.mono : ∀ a0 k, LeO (xBz.f k a0) (xBz.f (k + 1) a0) := by
 intro a0 k
 unfold xBz.f
 repeat' first
   | (with_reducible exact xB4.mono _ _)
   | (with_reducible exact LeO.refl _)
   | (with_reducible exact LeO.none _)
   | (with_reducible refine LeO.ite ?_ ?_)
   | (with_reducible refine LeO.bind ?_ (fun _ => ?_))
set_option maxHeartbeats 8000000 in
set_option maxRecDepth 100000 in
theorem xBz.calls (k : Nat) (a0 : ByteArray) (r : Bool) (w : World) (h : xBz.f k a0 = some r) :
  Calls Tryd.prog 53 #[.string a0] w fun e w' => e = .returned (.bool r) ∧ Below w.heap.size w w' := by
 have HB := Aside0.mk (Below.refl w.heap.size w)
 have H : (if 1 + a0.size ≤ 9223372036854775807 then ((xB4.f k ((⟨#[36]⟩ : ByteArray) ++ a0)).bind fun bt147 => (if bt147.2.1 = 0 then (if (bt147.1.length : Int) = 1 then (if 0 < (bt147.1.length : Int) then (if ((xB8 bt147.1 0).f0) = 2 then (some (((xB8 bt147.1 0).f1).toList == a0.toList)) else (some false)) else (none)) else (some false)) else (some false))) else (none)) = some r := h
 clear h
 by_cases c2 : 1 + a0.size ≤ 9223372036854775807
 ·rw [if_pos c2] at H
  have c2b0 := eq_true c2
  have c2b1 : decide (1 + a0.size ≤ 9223372036854775807) = true := decide_eq_true c2
  try have c2b2 : (9223372036854775807 < 1 + a0.size) = False := eq_false (Nat.not_lt.2 c2)
  replace H := Option.bind_eq_some_iff.mp H
  obtain ⟨⟨t147, t148, t149⟩, A30, H⟩ := H
  replace H : (if t148 = 0 then (if (t147.length : Int) = 1 then (if 0 < (t147.length : Int) then (if ((xB8 t147 0).f0) = 2 then (some (((xB8 t147 0).f1).toList == a0.toList)) else (some false)) else (none)) else (some false)) else (some false)) = some r := H
  have A3 := Aside0.mk A30
  clear A30
  by_cases c4 : t148 = 0
  ·rw [if_pos c4] at H
   have c4b0 : (t148 == 0) = true := beq_iff_eq.mpr c4
   have c4b1 : (t148 != 0) = false := bne_eq_false_iff_eq.mpr c4
   clear c4
   by_cases c5 : (t147.length : Int) = 1
   ·rw [if_pos c5] at H
    have c5b0 : ((t147.length : Int) == 1) = true := beq_iff_eq.mpr c5
    have c5b1 : ((t147.length : Int) != 1) = false := bne_eq_false_iff_eq.mpr c5
    clear c5
    by_cases c6 : 0 < (t147.length : Int)
    ·rw [if_pos c6] at H
     have c6b0 : decide (0 < (t147.length : Int)) = true := decide_eq_true c6
     have c6b1 : decide (0 < t147.length) = true := decide_eq_true (by omega)
     clear c6
     by_cases c7 : ((xB8 t147 0).f0) = 2
     ·rw [if_pos c7] at H
      have c7b0 : (((xB8 t147 0).f0) == 2) = true := beq_iff_eq.mpr c7
      have c7b1 : (((xB8 t147 0).f0) != 2) = false := bne_eq_false_iff_eq.mpr c7
      clear c7
      obtain rfl := Option.some.inj H
      go_enter Tryd.func53, Tryd.ntmps53
      go_wp2_with (first | ((with_reducible refine xAj (f := 17) rfl ?_); refine xB6 (some 9) rfl rfl Tryd.func17 (by kernel_rfl) rfl #[.string ((⟨#[36]⟩ : ByteArray) ++ a0)] rfl (by (try simp only [List.map_toArray, List.map_cons, List.map_nil]); first | done | rfl | (simp only [List.length_drop, List.length_take]; rfl)) ?_; (with_reducible refine (xB4.calls k ((⟨#[36]⟩ : ByteArray) ++ a0) t147 t148 t149 _ A3.out).mono ?_); rintro e w8 ⟨v150, rfl, ho0, hb⟩; refine ⟨_, rfl, ?_⟩; have n0_ := Aside0.mk (Kd.R_lower ho0 (xAs (by repeat (first | (with_reducible first | exact HB.out | apply xA1 | apply xA0 | apply below_drew1) | exact HB.out)))); have n1_ := Aside0.mk (xAi (by repeat (first | (with_reducible first | exact HB.out | apply xA1 | apply xA0 | apply below_drew1) | exact HB.out)) hb); clear HB; have HO151 := n0_; have HB := n1_; clear n0_ n1_; (try clear hb); (try clear hb2); (try clear hk); (try clear hi); (try clear ho0); obtain ⟨Ao9, co9, eo9⟩ := Kd.R_slice HO151.out; subst eo9; have p152 : 0 ≤ (0 : Int) := (by omega); have q152 : 0 < (t147.length : Int) := of_decide_eq_true (by first | (with_reducible assumption) | assumption); obtain ⟨ad152, e152, hx152_0, hx152_1, hx152_2, hx152_3⟩ := xCz (Kd.R_reads' HO151.out).2.2 0 p152 q152; cases e152; have qi152 : (0 < t147.length) = True := eq_true (by omega); (try rw [show ((0 : Int)).toNat = 0 from rfl] at hx152_0); (try rw [show 0 * 4 = 0 from rfl] at hx152_0); (try rw [Addr.add_zero'] at hx152_0); (try rw [show ((0 : Int)).toNat = 0 from rfl] at hx152_1); (try rw [show 0 * 4 = 0 from rfl] at hx152_1); (try rw [Addr.add_zero'] at hx152_1); (try rw [show ((0 : Int)).toNat = 0 from rfl] at hx152_2); (try rw [show 0 * 4 = 0 from rfl] at hx152_2); (try rw [Addr.add_zero'] at hx152_2); (try rw [show ((0 : Int)).toNat = 0 from rfl] at hx152_3); (try rw [show 0 * 4 = 0 from rfl] at hx152_3); (try rw [Addr.add_zero'] at hx152_3); replace p152 := eq_true p152; replace q152 := eq_true q152; have p153 : 0 ≤ (0 : Int) := (by omega); have q153 : 0 < (t147.length : Int) := of_decide_eq_true (by first | (with_reducible assumption) | assumption); obtain ⟨ad153, e153, hx153_0, hx153_1, hx153_2, hx153_3⟩ := xCz (Kd.R_reads' HO151.out).2.2 0 p153 q153; obtain rfl : ad152 = ad153 := (by injection e153); have qi153 : (0 < t147.length) = True := eq_true (by omega); (try rw [show ((0 : Int)).toNat = 0 from rfl] at hx153_0); (try rw [show 0 * 4 = 0 from rfl] at hx153_0); (try rw [Addr.add_zero'] at hx153_0); (try rw [show ((0 : Int)).toNat = 0 from rfl] at hx153_1); (try rw [show 0 * 4 = 0 from rfl] at hx153_1); (try rw [Addr.add_zero'] at hx153_1); (try rw [show ((0 : Int)).toNat = 0 from rfl] at hx153_2); (try rw [show 0 * 4 = 0 from rfl] at hx153_2); (try rw [Addr.add_zero'] at hx153_2); (try rw [show ((0 : Int)).toNat = 0 from rfl] at hx153_3); (try rw [show 0 * 4 = 0 from rfl] at hx153_3); (try rw [Addr.add_zero'] at hx153_3); replace p153 := eq_true p153; replace q153 := eq_true q153))
      go_ret
      exact ⟨by first | rfl | (simp <;> rfl) | (simp [*] <;> rfl), by repeat (first | (with_reducible first | exact HB.out | apply xA1 | apply xA0 | apply below_drew1) | exact HB.out)⟩
     ·rw [if_neg c7] at H
      have c7b0 : (((xB8 t147 0).f0) == 2) = false := beq_eq_false_iff_ne.mpr c7
      have c7b1 : (((xB8 t147 0).f0) != 2) = true := bne_iff_ne.mpr c7
      obtain rfl := Option.some.inj H
      go_enter Tryd.func53, Tryd.ntmps53
      go_wp2_with (first | ((with_reducible refine xAj (f := 17) rfl ?_); refine xB6 (some 9) rfl rfl Tryd.func17 (by kernel_rfl) rfl #[.string ((⟨#[36]⟩ : ByteArray) ++ a0)] rfl (by (try simp only [List.map_toArray, List.map_cons, List.map_nil]); first | done | rfl | (simp only [List.length_drop, List.length_take]; rfl)) ?_; (with_reducible refine (xB4.calls k ((⟨#[36]⟩ : ByteArray) ++ a0) t147 t148 t149 _ A3.out).mono ?_); rintro e w10 ⟨v150, rfl, ho0, hb⟩; refine ⟨_, rfl, ?_⟩; have n0_ := Aside0.mk (Kd.R_lower ho0 (xAs (by repeat (first | (with_reducible first | exact HB.out | apply xA1 | apply xA0 | apply below_drew1) | exact HB.out)))); have n1_ := Aside0.mk (xAi (by repeat (first | (with_reducible first | exact HB.out | apply xA1 | apply xA0 | apply below_drew1) | exact HB.out)) hb); clear HB; have HO151 := n0_; have HB := n1_; clear n0_ n1_; (try clear hb); (try clear hb2); (try clear hk); (try clear hi); (try clear ho0); obtain ⟨Ao11, co11, eo11⟩ := Kd.R_slice HO151.out; subst eo11; have p152 : 0 ≤ (0 : Int) := (by omega); have q152 : 0 < (t147.length : Int) := of_decide_eq_true (by first | (with_reducible assumption) | assumption); obtain ⟨ad152, e152, hx152_0, hx152_1, hx152_2, hx152_3⟩ := xCz (Kd.R_reads' HO151.out).2.2 0 p152 q152; cases e152; have qi152 : (0 < t147.length) = True := eq_true (by omega); (try rw [show ((0 : Int)).toNat = 0 from rfl] at hx152_0); (try rw [show 0 * 4 = 0 from rfl] at hx152_0); (try rw [Addr.add_zero'] at hx152_0); (try rw [show ((0 : Int)).toNat = 0 from rfl] at hx152_1); (try rw [show 0 * 4 = 0 from rfl] at hx152_1); (try rw [Addr.add_zero'] at hx152_1); (try rw [show ((0 : Int)).toNat = 0 from rfl] at hx152_2); (try rw [show 0 * 4 = 0 from rfl] at hx152_2); (try rw [Addr.add_zero'] at hx152_2); (try rw [show ((0 : Int)).toNat = 0 from rfl] at hx152_3); (try rw [show 0 * 4 = 0 from rfl] at hx152_3); (try rw [Addr.add_zero'] at hx152_3); replace p152 := eq_true p152; replace q152 := eq_true q152))
      go_ret
      exact ⟨by first | rfl | (simp <;> rfl) | (simp [*] <;> rfl), by repeat (first | (with_reducible first | exact HB.out | apply xA1 | apply xA0 | apply below_drew1) | exact HB.out)⟩
    ·rw [if_neg c6] at H
     exact absurd H (by simp)
   ·rw [if_neg c5] at H
    have c5b0 : ((t147.length : Int) == 1) = false := beq_eq_false_iff_ne.mpr c5
    have c5b1 : ((t147.length : Int) != 1) = true := bne_iff_ne.mpr c5
    obtain rfl := Option.some.inj H
    go_enter Tryd.func53, Tryd.ntmps53
    go_wp2_with (first | ((with_reducible refine xAj (f := 17) rfl ?_); refine xB6 (some 9) rfl rfl Tryd.func17 (by kernel_rfl) rfl #[.string ((⟨#[36]⟩ : ByteArray) ++ a0)] rfl (by (try simp only [List.map_toArray, List.map_cons, List.map_nil]); first | done | rfl | (simp only [List.length_drop, List.length_take]; rfl)) ?_; (with_reducible refine (xB4.calls k ((⟨#[36]⟩ : ByteArray) ++ a0) t147 t148 t149 _ A3.out).mono ?_); rintro e w12 ⟨v150, rfl, ho0, hb⟩; refine ⟨_, rfl, ?_⟩; have n0_ := Aside0.mk (Kd.R_lower ho0 (xAs (by repeat (first | (with_reducible first | exact HB.out | apply xA1 | apply xA0 | apply below_drew1) | exact HB.out)))); have n1_ := Aside0.mk (xAi (by repeat (first | (with_reducible first | exact HB.out | apply xA1 | apply xA0 | apply below_drew1) | exact HB.out)) hb); clear HB; have HO151 := n0_; have HB := n1_; clear n0_ n1_; (try clear hb); (try clear hb2); (try clear hk); (try clear hi); (try clear ho0); obtain ⟨Ao13, co13, eo13⟩ := Kd.R_slice HO151.out; subst eo13))
    go_ret
    exact ⟨by first | rfl | (simp <;> rfl) | (simp [*] <;> rfl), by repeat (first | (with_reducible first | exact HB.out | apply xA1 | apply xA0 | apply below_drew1) | exact HB.out)⟩
  ·rw [if_neg c4] at H
   have c4b0 : (t148 == 0) = false := beq_eq_false_iff_ne.mpr c4
   have c4b1 : (t148 != 0) = true := bne_iff_ne.mpr c4
   obtain rfl := Option.some.inj H
   go_enter Tryd.func53, Tryd.ntmps53
   go_wp2_with (first | ((with_reducible refine xAj (f := 17) rfl ?_); refine xB6 (some 9) rfl rfl Tryd.func17 (by kernel_rfl) rfl #[.string ((⟨#[36]⟩ : ByteArray) ++ a0)] rfl (by (try simp only [List.map_toArray, List.map_cons, List.map_nil]); first | done | rfl | (simp only [List.length_drop, List.length_take]; rfl)) ?_; (with_reducible refine (xB4.calls k ((⟨#[36]⟩ : ByteArray) ++ a0) t147 t148 t149 _ A3.out).mono ?_); rintro e w14 ⟨v150, rfl, ho0, hb⟩; refine ⟨_, rfl, ?_⟩; have n0_ := Aside0.mk (Kd.R_lower ho0 (xAs (by repeat (first | (with_reducible first | exact HB.out | apply xA1 | apply xA0 | apply below_drew1) | exact HB.out)))); have n1_ := Aside0.mk (xAi (by repeat (first | (with_reducible first | exact HB.out | apply xA1 | apply xA0 | apply below_drew1) | exact HB.out)) hb); clear HB; have HO151 := n0_; have HB := n1_; clear n0_ n1_; (try clear hb); (try clear hb2); (try clear hk); (try clear hi); (try clear ho0)))
   go_ret
   exact ⟨by first | rfl | (simp <;> rfl) | (simp [*] <;> rfl), by repeat (first | (with_reducible first | exact HB.out | apply xA1 | apply xA0 | apply below_drew1) | exact HB.out)⟩
 ·rw [if_neg c2] at H
  exact absurd H (by simp)

end Go.Proofs.YtknbfhhmjbnemaaDoor.P
end
section
namespace Go.Proofs.YtknbfhhmjbnemaaDoor.P
open Go.RowKit Go.Proofs.YtknbfhhmjbnemaaDoorW.PrintWords Go.Proofs.YtknbfhhmjbnemaaDoorW.PrintLast Go.Proofs.YtknbfhhmjbnemaaDoorW.PrintMore
attribute [local go_sem] xB9 xBe

/-! ### xAa: function 26 -/
mutual
def xAa.j0 : Nat → ByteArray → Bool → ByteArray → ByteArray → Int → Int → List (S25) → Option (Bool)
 | 0, _, _, _, _, _, _, _ => none
 | k + 1, x9, x10, x170000, x170001, x170002, x170003, x170004 => if x10 = true then (if (x170004.length : Int) = 0 then ((xBt.f x170002).bind fun t171 => (some t171)) else (some false)) else (if x9.toList = ([101, 120, 112, 111, 114, 116] : List UInt8) then (if (x170004.length : Int) = 0 then (if x170002 = 0 then (some true) else (some (x170002 == 1))) else (some false)) else (if x170002 = 0 then (xAa.j1 k ((x170004.length : Int) != 1) x170000 x170001 x170002 x170003 x170004) else (xAa.j1 k true x170000 x170001 x170002 x170003 x170004)))
def xAa.j1 : Nat → Bool → ByteArray → ByteArray → Int → Int → List (S25) → Option (Bool)
 | 0, _, _, _, _, _, _ => none
 | k + 1, x46, x170000, x170001, x170002, x170003, x170004 => if x46 = true then (some false) else (if 0 < (x170004.length : Int) then (if x170000.toList = ([107, 101, 121] : List UInt8) then (xAa.j2 k (x170000.toList == ([107, 101, 121] : List UInt8)) x170000 x170001 x170002 x170003 x170004 ((xA2 x170004 0).f0) ((xA2 x170004 0).f1) ((xA2 x170004 0).f2) ((xA2 x170004 0).f3) ((xA2 x170004 0).f4)) else (xAa.j2 k (x170000.toList == ([114, 111, 111, 116] : List UInt8)) x170000 x170001 x170002 x170003 x170004 ((xA2 x170004 0).f0) ((xA2 x170004 0).f1) ((xA2 x170004 0).f2) ((xA2 x170004 0).f3) ((xA2 x170004 0).f4))) else (none))
def xAa.j2 : Nat → Bool → ByteArray → ByteArray → Int → Int → List (S25) → ByteArray → ByteArray → Int → Int → List (S25) → Option (Bool)
 | 0, _, _, _, _, _, _, _, _, _, _, _ => none
 | k + 1, x53, x170000, x170001, x170002, x170003, x170004, x174000, x174001, x174002, x174003, x174004 => if x53 = true then (if x174000.toList = ([104, 101, 120] : List UInt8) then (if x174002 = 0 then (if (x174004.length : Int) = 0 then ((xBz.f k x174001).bind fun t174 => (some t174)) else (some false)) else (some false)) else (some false)) else (if x170000.toList = ([118, 111, 108, 117, 109, 101] : List UInt8) then ((xA7.f k x174000 x174001 x174002 x174003 x174004 1).bind fun t175 => (some t175)) else (some false))
end
def xAa.f (k : Nat) (a0_0 : ByteArray) (a0_1 : ByteArray) (a0_2 : Int) (a0_3 : Int) (l0_4 : List (S25)) : Option (Bool) := (xBb.f k a0_1).bind fun t170 => (if t170 = true then (if a0_0.toList = ([100, 101, 118, 105, 99, 101] : List UInt8) then (xAa.j0 k a0_0 (a0_0.toList == ([100, 101, 118, 105, 99, 101] : List UInt8)) a0_0 a0_1 a0_2 a0_3 l0_4) else (xAa.j0 k a0_0 (a0_0.toList == ([106, 111, 117, 114, 110, 97, 108] : List UInt8)) a0_0 a0_1 a0_2 a0_3 l0_4)) else (some false))
theorem xAa.mono_l : ∀ k, (∀ y0 y1 y2 y3 y4 y5 y6, LeO (xAa.j0 k y0 y1 y2 y3 y4 y5 y6) (xAa.j0 (k + 1) y0 y1 y2 y3 y4 y5 y6)) ∧ (∀ y0 y1 y2 y3 y4 y5, LeO (xAa.j1 k y0 y1 y2 y3 y4 y5) (xAa.j1 (k + 1) y0 y1 y2 y3 y4 y5)) ∧ (∀ y0 y1 y2 y3 y4 y5 y6 y7 y8 y9 y10, LeO (xAa.j2 k y0 y1 y2 y3 y4 y5 y6 y7 y8 y9 y10) (xAa.j2 (k + 1) y0 y1 y2 y3 y4 y5 y6 y7 y8 y9 y10))
 | 0 => ⟨fun _ _ _ _ _ _ _ r h => by simp [xAa.j0] at h, fun _ _ _ _ _ _ r h => by simp [xAa.j1] at h, fun _ _ _ _ _ _ _ _ _ _ _ r h => by simp [xAa.j2] at h⟩
 | k + 1 => by
  obtain ⟨ih0, ih1, ih2⟩ := xAa.mono_l k
  refine ⟨?_, ?_, ?_⟩
  ·intro y0 y1 y2 y3 y4 y5 y6
   unfold xAa.j0
   repeat' first
   | (with_reducible exact ih0 _ _ _ _ _ _ _)
   | (with_reducible exact ih1 _ _ _ _ _ _)
   | (with_reducible exact ih2 _ _ _ _ _ _ _ _ _ _ _)
   | (with_reducible exact xA7.mono _ _ _ _ _ _ _)
   | (with_reducible exact xBz.mono _ _)
   | (with_reducible exact xBb.mono _ _)
   | (with_reducible exact LeO.refl _)
   | (with_reducible exact LeO.none _)
   | (with_reducible refine LeO.ite ?_ ?_)
   | (with_reducible refine LeO.bind ?_ (fun _ => ?_))
  ·intro y0 y1 y2 y3 y4 y5
   unfold xAa.j1
   repeat' first
   | (with_reducible exact ih0 _ _ _ _ _ _ _)
   | (with_reducible exact ih1 _ _ _ _ _ _)
   | (with_reducible exact ih2 _ _ _ _ _ _ _ _ _ _ _)
   | (with_reducible exact xA7.mono _ _ _ _ _ _ _)
   | (with_reducible exact xBz.mono _ _)
   | (with_reducible exact xBb.mono _ _)
   | (with_reducible exact LeO.refl _)
   | (with_reducible exact LeO.none _)
   | (with_reducible refine LeO.ite ?_ ?_)
   | (with_reducible refine LeO.bind ?_ (fun _ => ?_))
  ·intro y0 y1 y2 y3 y4 y5 y6 y7 y8 y9 y10
   unfold xAa.j2
   repeat' first
   | (with_reducible exact ih0 _ _ _ _ _ _ _)
   | (with_reducible exact ih1 _ _ _ _ _ _)
   | (with_reducible exact ih2 _ _ _ _ _ _ _ _ _ _ _)
   | (with_reducible exact xA7.mono _ _ _ _ _ _ _)
   | (with_reducible exact xBz.mono _ _)
   | (with_reducible exact xBb.mono _ _)
   | (with_reducible exact LeO.refl _)
   | (with_reducible exact LeO.none _)
   | (with_reducible refine LeO.ite ?_ ?_)
   | (with_reducible refine LeO.bind ?_ (fun _ => ?_))
theorem xAa.mono : ∀ a0 a1 a2 a3 a4 k, LeO (xAa.f k a0 a1 a2 a3 a4) (xAa.f (k + 1) a0 a1 a2 a3 a4) := by
 intro a0 a1 a2 a3 a4 k
 obtain ⟨ih0, ih1, ih2⟩ := xAa.mono_l k
 unfold xAa.f
 repeat' first
   | (with_reducible exact ih0 _ _ _ _ _ _ _)
   | (with_reducible exact ih1 _ _ _ _ _ _)
   | (with_reducible exact ih2 _ _ _ _ _ _ _ _ _ _ _)
   | (with_reducible exact xA7.mono _ _ _ _ _ _ _)
   | (with_reducible exact xBz.mono _ _)
   | (with_reducible exact xBb.mono _ _)
   | (with_reducible exact LeO.refl _)
   | (with_reducible exact LeO.none _)
   | (with_reducible refine LeO.ite ?_ ?_)
   | (with_reducible refine LeO.bind ?_ (fun _ => ?_))
set_option maxHeartbeats 8000000 in
set_option maxRecDepth 100000 in
theorem xAa.calls (k : Nat) (a0_0 : ByteArray) (a0_1 : ByteArray) (a0_2 : Int) (a0_3 : Int) (A0_4 : Option Addr) (c0_4 : Nat) (l0_4 : List (S25)) (r : Bool) (w : World) (hr0_4 : Kd.C k25 w A0_4 l0_4.length l0_4) (hc0_4 : l0_4.length ≤ c0_4) (h : xAa.f k a0_0 a0_1 a0_2 a0_3 l0_4 = some r) (m_ : Int) (hm_ : w.cell? ⟨0, 0, none⟩ = some (.int .i64 m_)) :
  Calls Tryd.prog 26 #[.agg #[.string a0_0, .string a0_1, .int .i64 a0_2, .int .i64 a0_3, .slice A0_4 l0_4.length c0_4]] w fun e w' => e = .returned (.bool r) ∧ Below w.heap.size w w' := by
 have hmA_ := Aside0.mk hm_
 clear hm_
 have hu25 := Tryd.underlying25
 have HR0_4 := Aside0.mk hr0_4
 have HC0_4 := Aside0.mk hc0_4
 clear hr0_4 hc0_4
 have HB := Aside0.mk (Below.refl w.heap.size w)
 have H : ((xBb.f k a0_1).bind fun t170 => (if t170 = true then (if a0_0.toList = ([100, 101, 118, 105, 99, 101] : List UInt8) then (xAa.j0 k a0_0 (a0_0.toList == ([100, 101, 118, 105, 99, 101] : List UInt8)) a0_0 a0_1 a0_2 a0_3 l0_4) else (xAa.j0 k a0_0 (a0_0.toList == ([106, 111, 117, 114, 110, 97, 108] : List UInt8)) a0_0 a0_1 a0_2 a0_3 l0_4)) else (some false))) = some r := h
 clear h
 replace H := Option.bind_eq_some_iff.mp H
 obtain ⟨t170, A20, H⟩ := H
 replace H : (if t170 = true then (if a0_0.toList = ([100, 101, 118, 105, 99, 101] : List UInt8) then (xAa.j0 k a0_0 (a0_0.toList == ([100, 101, 118, 105, 99, 101] : List UInt8)) a0_0 a0_1 a0_2 a0_3 l0_4) else (xAa.j0 k a0_0 (a0_0.toList == ([106, 111, 117, 114, 110, 97, 108] : List UInt8)) a0_0 a0_1 a0_2 a0_3 l0_4)) else (some false)) = some r := H
 have A2 := Aside0.mk A20
 clear A20
 by_cases c3 : t170 = true
 ·subst c3
  have H1 : (if a0_0.toList = ([100, 101, 118, 105, 99, 101] : List UInt8) then (xAa.j0 k a0_0 (a0_0.toList == ([100, 101, 118, 105, 99, 101] : List UInt8)) a0_0 a0_1 a0_2 a0_3 l0_4) else (xAa.j0 k a0_0 (a0_0.toList == ([106, 111, 117, 114, 110, 97, 108] : List UInt8)) a0_0 a0_1 a0_2 a0_3 l0_4)) = some r := by rw [if_pos rfl] at H; exact H
  clear H
  have H := H1
  clear H1
  have HC4 := Aside0.mk H
  clear H
  go_enter Tryd.func26, Tryd.ntmps26
  go_upto_if 10 with (first | ((with_reducible refine xBq (N := 1) rfl ?_); (try (refine xCj (by rfl) ?_; dsimp only)); refine xBm ?hg (N := 1) ?hd (cs := #[.string a0_0, .string a0_1, .int .i64 a0_2, .int .i64 a0_3, .slice A0_4 l0_4.length c0_4]) (t := 25) ?hr ?_; (case hd => rfl); (case hg => rfl); (case hr => first | (go_simp; done) | (go_simp; rfl)); intro gb169 hg w5 hbox hb; have n0_ := Aside0.mk (xAi (by repeat (first | (with_reducible first | exact HB.out | apply xA1 | apply xA0 | apply below_drew1) | exact HB.out)) hb); have n1_ := Aside0.mk (hbox); have n2_ := Aside0.mk ((by rw [hg]; exact (xAs (by repeat (first | (with_reducible first | exact HB.out | apply xA1 | apply xA0 | apply below_drew1) | exact HB.out))) : w.heap.size ≤ gb169)); have n3_ := Aside0.mk ((by rw [hg]; exact (xAs (by repeat (first | (with_reducible first | exact HB.out | apply xA1 | apply xA0 | apply below_drew1) | exact HB.out))) : w.heap.size ≤ gb169)); clear HB; have HB := n0_; have BK169 := n1_; have GW169 := n2_; have GE169 := n3_; clear n0_ n1_ n2_ n3_; clear hb hbox hg; obtain ⟨hcz6_0, hcz6_1, hcz6_2, hcz6_3, hcz6_4, hfz6_0, hfz6_1, hfz6_2, hfz6_3, hfz6_4⟩ := ex5 BK169.out) | ((with_reducible refine xAj (f := 51) rfl ?_); refine xB6 (some 6) rfl rfl Tryd.func51 (by kernel_rfl) rfl #[.string a0_1] rfl (by (try simp only [List.map_toArray, List.map_cons, List.map_nil]); first | done | rfl | (simp only [List.length_drop, List.length_take]; rfl)) ?_; (with_reducible refine (xBb.calls k a0_1 true _ A2.out m_ (by first | (with_reducible exact hmA_.out) | exact xC4 hmA_.out (by repeat (first | (with_reducible first | exact HB.out | apply xA1 | apply xA0 | apply below_drew1 | refine xA6 ?_ GE169.out | refine xA6 ?_ GE173.out) | exact HB.out)) | (repeat (first | exact hmA_.out | refine xBu ?_ | refine mlen_drew ?_)))).mono ?_); rintro e w7 ⟨rfl, hb⟩; refine ⟨_, rfl, ?_⟩; have n0_ := Aside0.mk (xAt (g := gb169) (o := .cells #[.string a0_0, .string a0_1, .int .i64 a0_2, .int .i64 a0_3, .slice A0_4 l0_4.length c0_4] 25 (0, 0)) (by (with_reducible repeat (first | refine xA5 ?_ _ | refine xA8 ?_ | refine xA4 ?_ _)); exact BK169.out) hb); have n1_ := Aside0.mk (xAi (by repeat (first | (with_reducible first | exact HB.out | apply xA1 | apply xA0 | apply below_drew1 | refine xA6 ?_ GE169.out) | exact HB.out)) hb); clear BK169; clear HB; have BK169 := n0_; have HB := n1_; clear n0_ n1_; (try clear hb); (try clear hb2); (try clear hk); (try clear hi); obtain ⟨hcz8_0, hcz8_1, hcz8_2, hcz8_3, hcz8_4, hfz8_0, hfz8_1, hfz8_2, hfz8_3, hfz8_4⟩ := ex5 BK169.out))
  (try simp only [Act.put, List.setIfInBounds_toArray, List.set_cons_zero, List.set_cons_succ])
  go_cut [10] (fun v10 wc => ∃ (kq : Nat) (x10_3 : Bool), v10 = .bool x10_3 ∧ Aside0 (xAa.j0 kq a0_0 x10_3 a0_0 a0_1 a0_2 a0_3 l0_4 = some r) ∧ Aside0 (kq ≤ k) ∧ Aside0 (wc.heap[gb169]? = some (.cells #[.string a0_0, .string a0_1, .int .i64 a0_2, .int .i64 a0_3, (.slice A0_4 l0_4.length c0_4)] 25 (0, 0))) ∧ Aside0 (Below w.heap.size w wc))
  case first =>
   have H := HC4.out
   clear HC4
   by_cases c9 : a0_0.toList = ([100, 101, 118, 105, 99, 101] : List UInt8)
   ·rw [if_pos c9] at H
    have c9b0 : (a0_0.toList == ([100, 101, 118, 105, 99, 101] : List UInt8)) = true := beq_iff_eq.mpr c9
    have c9b1 : (a0_0.toList != ([100, 101, 118, 105, 99, 101] : List UInt8)) = false := bne_eq_false_iff_eq.mpr c9
    clear c9
    (first | rw [c9b0] | (simp only [xB0, xB1]; rw [c9b0]) | skip)
    have H' := Aside0.mk H
    clear H
    go_wp2
    go_meet
    case rel => exact ⟨_, ((a0_0.toList == ([100, 101, 118, 105, 99, 101] : List UInt8))), (by first | rfl | (simp; done) | (simp [*]; done)), H', ⟨by first | omega | exact Nat.le_refl _⟩, ⟨by (with_reducible repeat (first | refine xA5 ?_ _ | refine xA8 ?_ | refine xA4 ?_ _)); exact BK169.out⟩, ⟨by repeat (first | (with_reducible first | exact HB.out | apply xA1 | apply xA0 | apply below_drew1 | refine xA6 ?_ GE169.out) | exact HB.out)⟩⟩
   ·rw [if_neg c9] at H
    have c9b0 : (a0_0.toList == ([100, 101, 118, 105, 99, 101] : List UInt8)) = false := beq_eq_false_iff_ne.mpr c9
    have c9b1 : (a0_0.toList != ([100, 101, 118, 105, 99, 101] : List UInt8)) = true := bne_iff_ne.mpr c9
    (first | rw [c9b0] | (simp only [xB0, xB1]; rw [c9b0]) | skip)
    have H' := Aside0.mk H
    clear H
    go_wp2
    go_meet
    case rel => exact ⟨_, ((a0_0.toList == ([106, 111, 117, 114, 110, 97, 108] : List UInt8))), (by first | rfl | (simp; done) | (simp [*]; done)), H', ⟨by first | omega | exact Nat.le_refl _⟩, ⟨by (with_reducible repeat (first | refine xA5 ?_ _ | refine xA8 ?_ | refine xA4 ?_ _)); exact BK169.out⟩, ⟨by repeat (first | (with_reducible first | exact HB.out | apply xA1 | apply xA0 | apply below_drew1 | refine xA6 ?_ GE169.out) | exact HB.out)⟩⟩
  case rest =>
   clear HC4
   try clear c2
   try clear p2
   try clear c3
   try clear c5
   try clear c9
   try clear c9b0
   try clear c9b1
   try clear hcz6_0 hcz6_1 hcz6_2 hcz6_3 hcz6_4
   try clear hcz8_0 hcz8_1 hcz8_2 hcz8_3 hcz8_4
   try clear hfz6_0 hfz6_1 hfz6_2 hfz6_3 hfz6_4
   try clear hfz8_0 hfz8_1 hfz8_2 hfz8_3 hfz8_4
   obtain ⟨kq, x10_3, rfl, HA, HJ3, BK169, HB⟩ := hcut
   cases kq with
   | zero => exact absurd HA.out (by simp [xAa.j0])
   | succ kj3 =>
    have H := HA.out
    clear HA
    simp only [xAa.j0] at H
    by_cases c10 : x10_3 = true
    ·subst c10
     have H1 : (if (l0_4.length : Int) = 0 then ((xBt.f a0_2).bind fun t171 => (some t171)) else (some false)) = some r := by rw [if_pos rfl] at H; exact H
     clear H
     have H := H1
     clear H1
     by_cases c11 : (l0_4.length : Int) = 0
     ·rw [if_pos c11] at H
      have c11b0 : ((l0_4.length : Int) == 0) = true := beq_iff_eq.mpr c11
      have c11b1 : ((l0_4.length : Int) != 0) = false := bne_eq_false_iff_eq.mpr c11
      clear c11
      replace H := Option.bind_eq_some_iff.mp H
      obtain ⟨t171, A120, H⟩ := H
      replace H : (some t171) = some r := H
      have A12 := Aside0.mk A120
      clear A120
      obtain rfl := Option.some.inj H
      obtain ⟨hcz13_0, hcz13_1, hcz13_2, hcz13_3, hcz13_4, hfz13_0, hfz13_1, hfz13_2, hfz13_3, hfz13_4⟩ := ex5 BK169.out
      go_wp2_with (first | (go_at_call 52; (with_reducible refine (xBt.calls a0_2 t171 _ A12.out).mono ?_); rintro e w' ⟨rfl, ⟨nd, rfl⟩⟩))
      go_ret
      exact ⟨by first | rfl | (simp <;> rfl) | (simp [*] <;> rfl), by repeat (first | (with_reducible first | exact HB.out | apply xA1 | apply xA0 | apply below_drew1 | refine xA6 ?_ GE169.out) | exact HB.out)⟩
     ·rw [if_neg c11] at H
      have c11b0 : ((l0_4.length : Int) == 0) = false := beq_eq_false_iff_ne.mpr c11
      have c11b1 : ((l0_4.length : Int) != 0) = true := bne_iff_ne.mpr c11
      have c11b2 : ¬ (l0_4 = []) := fun h_ => c11 (by rw [h_]; rfl)
      obtain rfl := Option.some.inj H
      obtain ⟨hcz14_0, hcz14_1, hcz14_2, hcz14_3, hcz14_4, hfz14_0, hfz14_1, hfz14_2, hfz14_3, hfz14_4⟩ := ex5 BK169.out
      go_wp2
      go_ret
      exact ⟨by first | rfl | (simp <;> rfl) | (simp [*] <;> rfl), by repeat (first | (with_reducible first | exact HB.out | apply xA1 | apply xA0 | apply below_drew1 | refine xA6 ?_ GE169.out) | exact HB.out)⟩
    ·replace c10 := Bool.eq_false_iff.mpr c10
     subst c10
     have H1 : (if a0_0.toList = ([101, 120, 112, 111, 114, 116] : List UInt8) then (if (l0_4.length : Int) = 0 then (if a0_2 = 0 then (some true) else (some (a0_2 == 1))) else (some false)) else (if a0_2 = 0 then (xAa.j1 kj3 ((l0_4.length : Int) != 1) a0_0 a0_1 a0_2 a0_3 l0_4) else (xAa.j1 kj3 true a0_0 a0_1 a0_2 a0_3 l0_4))) = some r := by rw [if_neg (show ¬ (false = true) by decide)] at H; exact H
     clear H
     have H := H1
     clear H1
     by_cases c15 : a0_0.toList = ([101, 120, 112, 111, 114, 116] : List UInt8)
     ·rw [if_pos c15] at H
      have c15b0 : (a0_0.toList == ([101, 120, 112, 111, 114, 116] : List UInt8)) = true := beq_iff_eq.mpr c15
      have c15b1 : (a0_0.toList != ([101, 120, 112, 111, 114, 116] : List UInt8)) = false := bne_eq_false_iff_eq.mpr c15
      clear c15
      by_cases c16 : (l0_4.length : Int) = 0
      ·rw [if_pos c16] at H
       have c16b0 : ((l0_4.length : Int) == 0) = true := beq_iff_eq.mpr c16
       have c16b1 : ((l0_4.length : Int) != 0) = false := bne_eq_false_iff_eq.mpr c16
       clear c16
       by_cases c17 : a0_2 = 0
       ·rw [if_pos c17] at H
        have c17b0 : (a0_2 == 0) = true := beq_iff_eq.mpr c17
        have c17b1 : (a0_2 != 0) = false := bne_eq_false_iff_eq.mpr c17
        clear c17
        obtain rfl := Option.some.inj H
        obtain ⟨hcz18_0, hcz18_1, hcz18_2, hcz18_3, hcz18_4, hfz18_0, hfz18_1, hfz18_2, hfz18_3, hfz18_4⟩ := ex5 BK169.out
        go_wp2
        go_ret
        exact ⟨by first | rfl | (simp <;> rfl) | (simp [*] <;> rfl), by repeat (first | (with_reducible first | exact HB.out | apply xA1 | apply xA0 | apply below_drew1 | refine xA6 ?_ GE169.out) | exact HB.out)⟩
       ·rw [if_neg c17] at H
        have c17b0 : (a0_2 == 0) = false := beq_eq_false_iff_ne.mpr c17
        have c17b1 : (a0_2 != 0) = true := bne_iff_ne.mpr c17
        obtain rfl := Option.some.inj H
        obtain ⟨hcz19_0, hcz19_1, hcz19_2, hcz19_3, hcz19_4, hfz19_0, hfz19_1, hfz19_2, hfz19_3, hfz19_4⟩ := ex5 BK169.out
        go_wp2
        go_ret
        exact ⟨by first | rfl | (simp <;> rfl) | (simp [*] <;> rfl), by repeat (first | (with_reducible first | exact HB.out | apply xA1 | apply xA0 | apply below_drew1 | refine xA6 ?_ GE169.out) | exact HB.out)⟩
      ·rw [if_neg c16] at H
       have c16b0 : ((l0_4.length : Int) == 0) = false := beq_eq_false_iff_ne.mpr c16
       have c16b1 : ((l0_4.length : Int) != 0) = true := bne_iff_ne.mpr c16
       have c16b2 : ¬ (l0_4 = []) := fun h_ => c16 (by rw [h_]; rfl)
       obtain rfl := Option.some.inj H
       obtain ⟨hcz20_0, hcz20_1, hcz20_2, hcz20_3, hcz20_4, hfz20_0, hfz20_1, hfz20_2, hfz20_3, hfz20_4⟩ := ex5 BK169.out
       go_wp2
       go_ret
       exact ⟨by first | rfl | (simp <;> rfl) | (simp [*] <;> rfl), by repeat (first | (with_reducible first | exact HB.out | apply xA1 | apply xA0 | apply below_drew1 | refine xA6 ?_ GE169.out) | exact HB.out)⟩
     ·rw [if_neg c15] at H
      have c15b0 : (a0_0.toList == ([101, 120, 112, 111, 114, 116] : List UInt8)) = false := beq_eq_false_iff_ne.mpr c15
      have c15b1 : (a0_0.toList != ([101, 120, 112, 111, 114, 116] : List UInt8)) = true := bne_iff_ne.mpr c15
      have HC21 := Aside0.mk H
      clear H
      go_upto_region 9 with (fail)
      go_cut [46] (fun v46 wc => ∃ (kq : Nat) (x46_20 : Bool), v46 = .bool x46_20 ∧ Aside0 (xAa.j1 kq x46_20 a0_0 a0_1 a0_2 a0_3 l0_4 = some r) ∧ Aside0 (kq ≤ kj3) ∧ Aside0 (wc.heap[gb169]? = some (.cells #[.string a0_0, .string a0_1, .int .i64 a0_2, .int .i64 a0_3, (.slice A0_4 l0_4.length c0_4)] 25 (0, 0))) ∧ Aside0 (Below w.heap.size w wc))
      case first =>
       have H := HC21.out
       clear HC21
       by_cases c22 : a0_2 = 0
       ·rw [if_pos c22] at H
        have c22b0 : (a0_2 == 0) = true := beq_iff_eq.mpr c22
        have c22b1 : (a0_2 != 0) = false := bne_eq_false_iff_eq.mpr c22
        clear c22
        (first | rw [c22b0] | (simp only [xB0, xB1]; rw [c22b0]) | skip)
        have H' := Aside0.mk H
        clear H
        obtain ⟨hcz23_0, hcz23_1, hcz23_2, hcz23_3, hcz23_4, hfz23_0, hfz23_1, hfz23_2, hfz23_3, hfz23_4⟩ := ex5 BK169.out
        go_wp2
        go_meet
        case rel => exact ⟨_, (((l0_4.length : Int) != 1)), (by first | rfl | (simp; done) | (simp [*]; done)), H', ⟨by have := HJ3.out; first | omega | exact Nat.le_refl _⟩, ⟨by (with_reducible repeat (first | refine xA5 ?_ _ | refine xA8 ?_ | refine xA4 ?_ _)); exact BK169.out⟩, ⟨by repeat (first | (with_reducible first | exact HB.out | apply xA1 | apply xA0 | apply below_drew1 | refine xA6 ?_ GE169.out) | exact HB.out)⟩⟩
       ·rw [if_neg c22] at H
        have c22b0 : (a0_2 == 0) = false := beq_eq_false_iff_ne.mpr c22
        have c22b1 : (a0_2 != 0) = true := bne_iff_ne.mpr c22
        (first | rw [c22b0] | (simp only [xB0, xB1]; rw [c22b0]) | skip)
        have H' := Aside0.mk H
        clear H
        obtain ⟨hcz24_0, hcz24_1, hcz24_2, hcz24_3, hcz24_4, hfz24_0, hfz24_1, hfz24_2, hfz24_3, hfz24_4⟩ := ex5 BK169.out
        go_wp2
        go_meet
        case rel => exact ⟨_, (true), (by first | rfl | (simp; done) | (simp [*]; done)), H', ⟨by have := HJ3.out; first | omega | exact Nat.le_refl _⟩, ⟨by (with_reducible repeat (first | refine xA5 ?_ _ | refine xA8 ?_ | refine xA4 ?_ _)); exact BK169.out⟩, ⟨by repeat (first | (with_reducible first | exact HB.out | apply xA1 | apply xA0 | apply below_drew1 | refine xA6 ?_ GE169.out) | exact HB.out)⟩⟩
      case rest =>
       clear HC21
       try clear c1
       try clear c2
       try clear p2
       try clear c3
       try clear c5
       try clear c9
       try clear c9b0
       try clear c9b1
       try clear c10
       try clear c11
       try clear c11b0
       try clear c11b1
       try clear c11b2
       try clear c15
       try clear c15b0
       try clear c15b1
       try clear c16
       try clear c16b0
       try clear c16b1
       try clear c16b2
       try clear c17
       try clear c17b0
       try clear c17b1
       try clear c22
       try clear c22b0
       try clear c22b1
       try clear hcz13_0 hcz13_1 hcz13_2 hcz13_3 hcz13_4
       try clear hcz14_0 hcz14_1 hcz14_2 hcz14_3 hcz14_4
       try clear hcz18_0 hcz18_1 hcz18_2 hcz18_3 hcz18_4
       try clear hcz19_0 hcz19_1 hcz19_2 hcz19_3 hcz19_4
       try clear hcz20_0 hcz20_1 hcz20_2 hcz20_3 hcz20_4
       try clear hcz23_0 hcz23_1 hcz23_2 hcz23_3 hcz23_4
       try clear hcz24_0 hcz24_1 hcz24_2 hcz24_3 hcz24_4
       try clear hcz6_0 hcz6_1 hcz6_2 hcz6_3 hcz6_4
       try clear hcz8_0 hcz8_1 hcz8_2 hcz8_3 hcz8_4
       try clear hfz13_0 hfz13_1 hfz13_2 hfz13_3 hfz13_4
       try clear hfz14_0 hfz14_1 hfz14_2 hfz14_3 hfz14_4
       try clear hfz18_0 hfz18_1 hfz18_2 hfz18_3 hfz18_4
       try clear hfz19_0 hfz19_1 hfz19_2 hfz19_3 hfz19_4
       try clear hfz20_0 hfz20_1 hfz20_2 hfz20_3 hfz20_4
       try clear hfz23_0 hfz23_1 hfz23_2 hfz23_3 hfz23_4
       try clear hfz24_0 hfz24_1 hfz24_2 hfz24_3 hfz24_4
       try clear hfz6_0 hfz6_1 hfz6_2 hfz6_3 hfz6_4
       try clear hfz8_0 hfz8_1 hfz8_2 hfz8_3 hfz8_4
       try clear p2
       obtain ⟨kq, x46_20, rfl, HA, HJ20, BK169, HB⟩ := hcut
       cases kq with
       | zero => exact absurd HA.out (by simp [xAa.j1])
       | succ kj20 =>
        have H := HA.out
        clear HA
        simp only [xAa.j1] at H
        by_cases c25 : x46_20 = true
        ·subst c25
         have H1 : (some false) = some r := by rw [if_pos rfl] at H; exact H
         clear H
         have H := H1
         clear H1
         obtain rfl := Option.some.inj H
         go_wp2
         go_ret
         exact ⟨by first | rfl | (simp <;> rfl) | (simp [*] <;> rfl), by repeat (first | (with_reducible first | exact HB.out | apply xA1 | apply xA0 | apply below_drew1 | refine xA6 ?_ GE169.out) | exact HB.out)⟩
        ·replace c25 := Bool.eq_false_iff.mpr c25
         subst c25
         have H1 : (if 0 < (l0_4.length : Int) then (if a0_0.toList = ([107, 101, 121] : List UInt8) then (xAa.j2 kj20 (a0_0.toList == ([107, 101, 121] : List UInt8)) a0_0 a0_1 a0_2 a0_3 l0_4 ((xA2 l0_4 0).f0) ((xA2 l0_4 0).f1) ((xA2 l0_4 0).f2) ((xA2 l0_4 0).f3) ((xA2 l0_4 0).f4)) else (xAa.j2 kj20 (a0_0.toList == ([114, 111, 111, 116] : List UInt8)) a0_0 a0_1 a0_2 a0_3 l0_4 ((xA2 l0_4 0).f0) ((xA2 l0_4 0).f1) ((xA2 l0_4 0).f2) ((xA2 l0_4 0).f3) ((xA2 l0_4 0).f4))) else (none)) = some r := by rw [if_neg (show ¬ (false = true) by decide)] at H; exact H
         clear H
         have H := H1
         clear H1
         by_cases c26 : 0 < (l0_4.length : Int)
         ·rw [if_pos c26] at H
          have c26b0 : decide (0 < (l0_4.length : Int)) = true := decide_eq_true c26
          have c26b1 : decide (0 < l0_4.length) = true := decide_eq_true (by omega)
          clear c26
          have HC27 := Aside0.mk H
          clear H
          obtain ⟨hcz28_0, hcz28_1, hcz28_2, hcz28_3, hcz28_4, hfz28_0, hfz28_1, hfz28_2, hfz28_3, hfz28_4⟩ := ex5 BK169.out
          have p172 : 0 ≤ (0 : Int) := (by omega)
          have q172 : 0 < (l0_4.length : Int) := of_decide_eq_true (by first | (with_reducible assumption) | assumption)
          obtain ⟨ad172, A172_4, c172_4, e172, hx172_0, hx172_1, hx172_2, hx172_3, hx172_4, hl172_4, hi172_4⟩ := xC3 HR0_4.out 0 p172 q172
          cases e172
          have qi172 : (0 < l0_4.length) = True := eq_true (by omega)
          (try rw [show ((0 : Int)).toNat = 0 from rfl] at hx172_0)
          (try rw [show 0 * 5 = 0 from rfl] at hx172_0)
          (try rw [Addr.add_zero'] at hx172_0)
          (try rw [show ((0 : Int)).toNat = 0 from rfl] at hx172_1)
          (try rw [show 0 * 5 = 0 from rfl] at hx172_1)
          (try rw [Addr.add_zero'] at hx172_1)
          (try rw [show ((0 : Int)).toNat = 0 from rfl] at hx172_2)
          (try rw [show 0 * 5 = 0 from rfl] at hx172_2)
          (try rw [Addr.add_zero'] at hx172_2)
          (try rw [show ((0 : Int)).toNat = 0 from rfl] at hx172_3)
          (try rw [show 0 * 5 = 0 from rfl] at hx172_3)
          (try rw [Addr.add_zero'] at hx172_3)
          (try rw [show ((0 : Int)).toNat = 0 from rfl] at hx172_4)
          (try rw [show 0 * 5 = 0 from rfl] at hx172_4)
          (try rw [Addr.add_zero'] at hx172_4)
          replace hx172_0 := (HB.out.cell (World.block_lt_of_cell? w _ hx172_0)).trans hx172_0
          replace hx172_1 := (HB.out.cell (World.block_lt_of_cell? w _ hx172_1)).trans hx172_1
          replace hx172_2 := (HB.out.cell (World.block_lt_of_cell? w _ hx172_2)).trans hx172_2
          replace hx172_3 := (HB.out.cell (World.block_lt_of_cell? w _ hx172_3)).trans hx172_3
          replace hx172_4 := (HB.out.cell (World.block_lt_of_cell? w _ hx172_4)).trans hx172_4
          have HR172_4 := Aside0.mk hi172_4
          have HC172_4 := Aside0.mk hl172_4
          clear hi172_4 hl172_4
          replace p172 := eq_true p172
          replace q172 := eq_true q172
          go_upto_if 53 with (first | ((with_reducible refine xBq (N := 3) rfl ?_); (try (refine xCj (by rfl) ?_; dsimp only)); refine xBm ?hg (N := 3) ?hd (cs := #[.string (⟨#[]⟩ : ByteArray), .string (⟨#[]⟩ : ByteArray), .int .i64 0, .int .i64 0, .slice none 0 0]) (t := 25) ?hr ?_; (case hd => rfl); (case hg => rfl); (case hr => first | (go_simp; done) | (go_simp; rfl)); intro gb173 hg w29 hbox hb; have n0_ := Aside0.mk (xAt (g := gb169) (o := .cells #[.string a0_0, .string a0_1, .int .i64 a0_2, .int .i64 a0_3, .slice (some ad172) l0_4.length c0_4] 25 (0, 0)) (by (with_reducible repeat (first | refine xA5 ?_ _ | refine xA8 ?_ | refine xA4 ?_ _)); exact BK169.out) hb); have n1_ := Aside0.mk (xAi (by repeat (first | (with_reducible first | exact HB.out | apply xA1 | apply xA0 | apply below_drew1 | refine xA6 ?_ GE169.out) | exact HB.out)) hb); have n2_ := Aside0.mk (hbox); have n3_ := Aside0.mk ((by rw [hg]; exact (xAs (by repeat (first | (with_reducible first | exact HB.out | apply xA1 | apply xA0 | apply below_drew1 | refine xA6 ?_ GE169.out) | exact HB.out))) : w.heap.size ≤ gb173)); have n4_ := Aside0.mk ((by rw [hg]; exact (xAs (by repeat (first | (with_reducible first | exact HB.out | apply xA1 | apply xA0 | apply below_drew1 | refine xA6 ?_ GE169.out) | exact HB.out))) : w.heap.size ≤ gb173)); have n5_ := Aside0.mk ((by rw [hg]; exact Nat.ne_of_lt (xBx (g := gb169) (o := .cells #[.string a0_0, .string a0_1, .int .i64 a0_2, .int .i64 a0_3, .slice (some ad172) l0_4.length c0_4] 25 (0, 0)) (by (with_reducible repeat (first | refine xA5 ?_ _ | refine xA8 ?_ | refine xA4 ?_ _)); exact BK169.out)) : gb169 ≠ gb173)); have n6_ := Aside0.mk ((by rw [hg]; exact Nat.ne_of_gt (xBx (g := gb169) (o := .cells #[.string a0_0, .string a0_1, .int .i64 a0_2, .int .i64 a0_3, .slice (some ad172) l0_4.length c0_4] 25 (0, 0)) (by (with_reducible repeat (first | refine xA5 ?_ _ | refine xA8 ?_ | refine xA4 ?_ _)); exact BK169.out)) : gb173 ≠ gb169)); clear BK169; clear HB; have BK169 := n0_; have HB := n1_; have BK173 := n2_; have GW173 := n3_; have GE173 := n4_; have NB169_173 := n5_; have NB173_169 := n6_; clear n0_ n1_ n2_ n3_ n4_ n5_ n6_; clear hb hbox hg; have hnb30 := NB173_169.out; have hnc30 := NB169_173.out; obtain ⟨hcz31_0, hcz31_1, hcz31_2, hcz31_3, hcz31_4, hfz31_0, hfz31_1, hfz31_2, hfz31_3, hfz31_4⟩ := ex5 BK173.out; obtain ⟨hcz32_0, hcz32_1, hcz32_2, hcz32_3, hcz32_4, hfz32_0, hfz32_1, hfz32_2, hfz32_3, hfz32_4⟩ := ex5 BK169.out))
          (try simp only [Act.put, List.setIfInBounds_toArray, List.set_cons_zero, List.set_cons_succ])
          go_cut [53] (fun v53 wc => ∃ (kq : Nat) (x53_26 : Bool), v53 = .bool x53_26 ∧ Aside0 (xAa.j2 kq x53_26 a0_0 a0_1 a0_2 a0_3 l0_4 ((xA2 l0_4 0).f0) ((xA2 l0_4 0).f1) ((xA2 l0_4 0).f2) ((xA2 l0_4 0).f3) ((xA2 l0_4 0).f4) = some r) ∧ Aside0 (kq ≤ kj20) ∧ Aside0 (wc.heap[gb169]? = some (.cells #[.string a0_0, .string a0_1, .int .i64 a0_2, .int .i64 a0_3, (.slice (some ad172) l0_4.length c0_4)] 25 (0, 0))) ∧ Aside0 (wc.heap[gb173]? = some (.cells #[.string ((xA2 l0_4 0).f0), .string ((xA2 l0_4 0).f1), .int .i64 ((xA2 l0_4 0).f2), .int .i64 ((xA2 l0_4 0).f3), (.slice A172_4 ((xA2 l0_4 0).f4).length c172_4)] 25 (0, 0))) ∧ Aside0 (Below w.heap.size w wc))
          case first =>
           have H := HC27.out
           clear HC27
           by_cases c33 : a0_0.toList = ([107, 101, 121] : List UInt8)
           ·rw [if_pos c33] at H
            have c33b0 : (a0_0.toList == ([107, 101, 121] : List UInt8)) = true := beq_iff_eq.mpr c33
            have c33b1 : (a0_0.toList != ([107, 101, 121] : List UInt8)) = false := bne_eq_false_iff_eq.mpr c33
            clear c33
            (first | rw [c33b0] | (simp only [xB0, xB1]; rw [c33b0]) | skip)
            have H' := Aside0.mk H
            clear H
            go_wp2
            go_meet
            case rel => exact ⟨_, ((a0_0.toList == ([107, 101, 121] : List UInt8))), (by first | rfl | (simp; done) | (simp [*]; done)), H', ⟨by have := HJ3.out; have := HJ20.out; first | omega | exact Nat.le_refl _⟩, ⟨by (with_reducible repeat (first | refine xA5 ?_ _ | refine xA8 ?_ | refine xA4 ?_ _)); refine xAk ?_ NB169_173.out _; (with_reducible repeat (first | refine xA5 ?_ _ | refine xA8 ?_ | refine xA4 ?_ _)); refine xAk ?_ NB169_173.out _; (with_reducible repeat (first | refine xA5 ?_ _ | refine xA8 ?_ | refine xA4 ?_ _)); refine xAk ?_ NB169_173.out _; (with_reducible repeat (first | refine xA5 ?_ _ | refine xA8 ?_ | refine xA4 ?_ _)); refine xAk ?_ NB169_173.out _; (with_reducible repeat (first | refine xA5 ?_ _ | refine xA8 ?_ | refine xA4 ?_ _)); refine xAk ?_ NB169_173.out _; (with_reducible repeat (first | refine xA5 ?_ _ | refine xA8 ?_ | refine xA4 ?_ _)); exact BK169.out⟩, ⟨by (with_reducible repeat (first | refine xA5 ?_ _ | refine xA8 ?_ | refine xA4 ?_ _)); refine xAh (cs := #[.string ((xA2 l0_4 0).f0), .string ((xA2 l0_4 0).f1), .int .i64 ((xA2 l0_4 0).f2), .int .i64 ((xA2 l0_4 0).f3), .slice none 0 0]) ?_ 4 _ rfl; (with_reducible repeat (first | refine xA5 ?_ _ | refine xA8 ?_ | refine xA4 ?_ _)); refine xAh (cs := #[.string ((xA2 l0_4 0).f0), .string ((xA2 l0_4 0).f1), .int .i64 ((xA2 l0_4 0).f2), .int .i64 0, .slice none 0 0]) ?_ 3 _ rfl; (with_reducible repeat (first | refine xA5 ?_ _ | refine xA8 ?_ | refine xA4 ?_ _)); refine xAh (cs := #[.string ((xA2 l0_4 0).f0), .string ((xA2 l0_4 0).f1), .int .i64 0, .int .i64 0, .slice none 0 0]) ?_ 2 _ rfl; (with_reducible repeat (first | refine xA5 ?_ _ | refine xA8 ?_ | refine xA4 ?_ _)); refine xAh (cs := #[.string ((xA2 l0_4 0).f0), .string (⟨#[]⟩ : ByteArray), .int .i64 0, .int .i64 0, .slice none 0 0]) ?_ 1 _ rfl; (with_reducible repeat (first | refine xA5 ?_ _ | refine xA8 ?_ | refine xA4 ?_ _)); refine xAh (cs := #[.string (⟨#[]⟩ : ByteArray), .string (⟨#[]⟩ : ByteArray), .int .i64 0, .int .i64 0, .slice none 0 0]) ?_ 0 _ rfl; (with_reducible repeat (first | refine xA5 ?_ _ | refine xA8 ?_ | refine xA4 ?_ _)); exact BK173.out⟩, ⟨by repeat (first | (with_reducible first | exact HB.out | apply xA1 | apply xA0 | apply below_drew1 | refine xA6 ?_ GE169.out | refine xA6 ?_ GE173.out) | exact HB.out)⟩⟩
           ·rw [if_neg c33] at H
            have c33b0 : (a0_0.toList == ([107, 101, 121] : List UInt8)) = false := beq_eq_false_iff_ne.mpr c33
            have c33b1 : (a0_0.toList != ([107, 101, 121] : List UInt8)) = true := bne_iff_ne.mpr c33
            (first | rw [c33b0] | (simp only [xB0, xB1]; rw [c33b0]) | skip)
            have H' := Aside0.mk H
            clear H
            go_wp2
            go_meet
            case rel => exact ⟨_, ((a0_0.toList == ([114, 111, 111, 116] : List UInt8))), (by first | rfl | (simp; done) | (simp [*]; done)), H', ⟨by have := HJ3.out; have := HJ20.out; first | omega | exact Nat.le_refl _⟩, ⟨by (with_reducible repeat (first | refine xA5 ?_ _ | refine xA8 ?_ | refine xA4 ?_ _)); refine xAk ?_ NB169_173.out _; (with_reducible repeat (first | refine xA5 ?_ _ | refine xA8 ?_ | refine xA4 ?_ _)); refine xAk ?_ NB169_173.out _; (with_reducible repeat (first | refine xA5 ?_ _ | refine xA8 ?_ | refine xA4 ?_ _)); refine xAk ?_ NB169_173.out _; (with_reducible repeat (first | refine xA5 ?_ _ | refine xA8 ?_ | refine xA4 ?_ _)); refine xAk ?_ NB169_173.out _; (with_reducible repeat (first | refine xA5 ?_ _ | refine xA8 ?_ | refine xA4 ?_ _)); refine xAk ?_ NB169_173.out _; (with_reducible repeat (first | refine xA5 ?_ _ | refine xA8 ?_ | refine xA4 ?_ _)); exact BK169.out⟩, ⟨by (with_reducible repeat (first | refine xA5 ?_ _ | refine xA8 ?_ | refine xA4 ?_ _)); refine xAh (cs := #[.string ((xA2 l0_4 0).f0), .string ((xA2 l0_4 0).f1), .int .i64 ((xA2 l0_4 0).f2), .int .i64 ((xA2 l0_4 0).f3), .slice none 0 0]) ?_ 4 _ rfl; (with_reducible repeat (first | refine xA5 ?_ _ | refine xA8 ?_ | refine xA4 ?_ _)); refine xAh (cs := #[.string ((xA2 l0_4 0).f0), .string ((xA2 l0_4 0).f1), .int .i64 ((xA2 l0_4 0).f2), .int .i64 0, .slice none 0 0]) ?_ 3 _ rfl; (with_reducible repeat (first | refine xA5 ?_ _ | refine xA8 ?_ | refine xA4 ?_ _)); refine xAh (cs := #[.string ((xA2 l0_4 0).f0), .string ((xA2 l0_4 0).f1), .int .i64 0, .int .i64 0, .slice none 0 0]) ?_ 2 _ rfl; (with_reducible repeat (first | refine xA5 ?_ _ | refine xA8 ?_ | refine xA4 ?_ _)); refine xAh (cs := #[.string ((xA2 l0_4 0).f0), .string (⟨#[]⟩ : ByteArray), .int .i64 0, .int .i64 0, .slice none 0 0]) ?_ 1 _ rfl; (with_reducible repeat (first | refine xA5 ?_ _ | refine xA8 ?_ | refine xA4 ?_ _)); refine xAh (cs := #[.string (⟨#[]⟩ : ByteArray), .string (⟨#[]⟩ : ByteArray), .int .i64 0, .int .i64 0, .slice none 0 0]) ?_ 0 _ rfl; (with_reducible repeat (first | refine xA5 ?_ _ | refine xA8 ?_ | refine xA4 ?_ _)); exact BK173.out⟩, ⟨by repeat (first | (with_reducible first | exact HB.out | apply xA1 | apply xA0 | apply below_drew1 | refine xA6 ?_ GE169.out | refine xA6 ?_ GE173.out) | exact HB.out)⟩⟩
          case rest =>
           clear HC27
           try clear c1
           try clear p1
           try clear q1
           try clear hx1
           try clear qi1
           try clear c2
           try clear p2
           try clear c3
           try clear c5
           try clear c9
           try clear c9b0
           try clear c9b1
           try clear c10
           try clear c11
           try clear c11b0
           try clear c11b1
           try clear c11b2
           try clear c15
           try clear c15b0
           try clear c15b1
           try clear c16
           try clear c16b0
           try clear c16b1
           try clear c16b2
           try clear c17
           try clear c17b0
           try clear c17b1
           try clear p17
           try clear q17
           try clear hx17
           try clear qi17
           try clear c22
           try clear c22b0
           try clear c22b1
           try clear c25
           try clear c26
           try clear c26b0
           try clear c26b1
           try clear c30
           try clear c33
           try clear c33b0
           try clear c33b1
           try clear hcz13_0 hcz13_1 hcz13_2 hcz13_3 hcz13_4
           try clear hcz14_0 hcz14_1 hcz14_2 hcz14_3 hcz14_4
           try clear hcz18_0 hcz18_1 hcz18_2 hcz18_3 hcz18_4
           try clear hcz19_0 hcz19_1 hcz19_2 hcz19_3 hcz19_4
           try clear hcz20_0 hcz20_1 hcz20_2 hcz20_3 hcz20_4
           try clear hcz23_0 hcz23_1 hcz23_2 hcz23_3 hcz23_4
           try clear hcz24_0 hcz24_1 hcz24_2 hcz24_3 hcz24_4
           try clear hcz28_0 hcz28_1 hcz28_2 hcz28_3 hcz28_4
           try clear hcz31_0 hcz31_1 hcz31_2 hcz31_3 hcz31_4
           try clear hcz32_0 hcz32_1 hcz32_2 hcz32_3 hcz32_4
           try clear hcz6_0 hcz6_1 hcz6_2 hcz6_3 hcz6_4
           try clear hcz8_0 hcz8_1 hcz8_2 hcz8_3 hcz8_4
           try clear hfz13_0 hfz13_1 hfz13_2 hfz13_3 hfz13_4
           try clear hfz14_0 hfz14_1 hfz14_2 hfz14_3 hfz14_4
           try clear hfz18_0 hfz18_1 hfz18_2 hfz18_3 hfz18_4
           try clear hfz19_0 hfz19_1 hfz19_2 hfz19_3 hfz19_4
           try clear hfz20_0 hfz20_1 hfz20_2 hfz20_3 hfz20_4
           try clear hfz23_0 hfz23_1 hfz23_2 hfz23_3 hfz23_4
           try clear hfz24_0 hfz24_1 hfz24_2 hfz24_3 hfz24_4
           try clear hfz28_0 hfz28_1 hfz28_2 hfz28_3 hfz28_4
           try clear hfz31_0 hfz31_1 hfz31_2 hfz31_3 hfz31_4
           try clear hfz32_0 hfz32_1 hfz32_2 hfz32_3 hfz32_4
           try clear hfz6_0 hfz6_1 hfz6_2 hfz6_3 hfz6_4
           try clear hfz8_0 hfz8_1 hfz8_2 hfz8_3 hfz8_4
           try clear hx172_0 hx172_1 hx172_2 hx172_3 hx172_4
           try clear p172
           try clear p2
           try clear q172
           obtain ⟨kq, x53_26, rfl, HA, HJ26, BK169, BK173, HB⟩ := hcut
           cases kq with
           | zero => exact absurd HA.out (by simp [xAa.j2])
           | succ kj26 =>
            have H := HA.out
            clear HA
            simp only [xAa.j2] at H
            by_cases c34 : x53_26 = true
            ·subst c34
             have H1 : (if ((xA2 l0_4 0).f0).toList = ([104, 101, 120] : List UInt8) then (if ((xA2 l0_4 0).f2) = 0 then (if (((xA2 l0_4 0).f4).length : Int) = 0 then ((xBz.f kj26 ((xA2 l0_4 0).f1)).bind fun t174 => (some t174)) else (some false)) else (some false)) else (some false)) = some r := by rw [if_pos rfl] at H; exact H
             clear H
             have H := H1
             clear H1
             by_cases c35 : ((xA2 l0_4 0).f0).toList = ([104, 101, 120] : List UInt8)
             ·rw [if_pos c35] at H
              have c35b0 : (((xA2 l0_4 0).f0).toList == ([104, 101, 120] : List UInt8)) = true := beq_iff_eq.mpr c35
              have c35b1 : (((xA2 l0_4 0).f0).toList != ([104, 101, 120] : List UInt8)) = false := bne_eq_false_iff_eq.mpr c35
              clear c35
              by_cases c36 : ((xA2 l0_4 0).f2) = 0
              ·rw [if_pos c36] at H
               have c36b0 : (((xA2 l0_4 0).f2) == 0) = true := beq_iff_eq.mpr c36
               have c36b1 : (((xA2 l0_4 0).f2) != 0) = false := bne_eq_false_iff_eq.mpr c36
               clear c36
               by_cases c37 : (((xA2 l0_4 0).f4).length : Int) = 0
               ·rw [if_pos c37] at H
                have c37b0 : ((((xA2 l0_4 0).f4).length : Int) == 0) = true := beq_iff_eq.mpr c37
                have c37b1 : ((((xA2 l0_4 0).f4).length : Int) != 0) = false := bne_eq_false_iff_eq.mpr c37
                clear c37
                replace H := Option.bind_eq_some_iff.mp H
                obtain ⟨t174, A380, H⟩ := H
                replace H : (some t174) = some r := H
                have A38 := Aside0.mk A380
                clear A380
                obtain rfl := Option.some.inj H
                have hnb39 := NB173_169.out
                have hnc39 := NB169_173.out
                obtain ⟨hcz40_0, hcz40_1, hcz40_2, hcz40_3, hcz40_4, hfz40_0, hfz40_1, hfz40_2, hfz40_3, hfz40_4⟩ := ex5 BK173.out
                go_wp2_with (first | (go_at_call 53; (with_reducible refine (xBz.calls kj26 ((xA2 l0_4 0).f1) t174 _ A38.out).mono ?_); rintro e w41 ⟨rfl, hb⟩; have n0_ := Aside0.mk (xAt (g := gb169) (o := .cells #[.string a0_0, .string a0_1, .int .i64 a0_2, .int .i64 a0_3, .slice (some ad172) l0_4.length c0_4] 25 (0, 0)) (by (with_reducible repeat (first | refine xA5 ?_ _ | refine xA8 ?_ | refine xA4 ?_ _)); exact BK169.out) hb); have n1_ := Aside0.mk (xAt (g := gb173) (o := .cells #[.string ((xA2 l0_4 0).f0), .string ((xA2 l0_4 0).f1), .int .i64 ((xA2 l0_4 0).f2), .int .i64 ((xA2 l0_4 0).f3), .slice A172_4 ((xA2 l0_4 0).f4).length c172_4] 25 (0, 0)) (by (with_reducible repeat (first | refine xA5 ?_ _ | refine xA8 ?_ | refine xA4 ?_ _)); exact BK173.out) hb); have n2_ := Aside0.mk (xAi (by repeat (first | (with_reducible first | exact HB.out | apply xA1 | apply xA0 | apply below_drew1 | refine xA6 ?_ GE169.out | refine xA6 ?_ GE173.out) | exact HB.out)) hb); clear BK169; clear BK173; clear HB; have BK169 := n0_; have BK173 := n1_; have HB := n2_; clear n0_ n1_ n2_; (try clear hb); (try clear hb2); (try clear hk); (try clear hi)))
                go_ret
                exact ⟨by first | rfl | (simp <;> rfl) | (simp [*] <;> rfl), by repeat (first | (with_reducible first | exact HB.out | apply xA1 | apply xA0 | apply below_drew1 | refine xA6 ?_ GE169.out | refine xA6 ?_ GE173.out) | exact HB.out)⟩
               ·rw [if_neg c37] at H
                have c37b0 : ((((xA2 l0_4 0).f4).length : Int) == 0) = false := beq_eq_false_iff_ne.mpr c37
                have c37b1 : ((((xA2 l0_4 0).f4).length : Int) != 0) = true := bne_iff_ne.mpr c37
                have c37b2 : ¬ (((xA2 l0_4 0).f4) = []) := fun h_ => c37 (by rw [h_]; rfl)
                obtain rfl := Option.some.inj H
                have hnb42 := NB173_169.out
                have hnc42 := NB169_173.out
                obtain ⟨hcz43_0, hcz43_1, hcz43_2, hcz43_3, hcz43_4, hfz43_0, hfz43_1, hfz43_2, hfz43_3, hfz43_4⟩ := ex5 BK173.out
                go_wp2
                go_ret
                exact ⟨by first | rfl | (simp <;> rfl) | (simp [*] <;> rfl), by repeat (first | (with_reducible first | exact HB.out | apply xA1 | apply xA0 | apply below_drew1 | refine xA6 ?_ GE169.out | refine xA6 ?_ GE173.out) | exact HB.out)⟩
              ·rw [if_neg c36] at H
               have c36b0 : (((xA2 l0_4 0).f2) == 0) = false := beq_eq_false_iff_ne.mpr c36
               have c36b1 : (((xA2 l0_4 0).f2) != 0) = true := bne_iff_ne.mpr c36
               obtain rfl := Option.some.inj H
               have hnb44 := NB173_169.out
               have hnc44 := NB169_173.out
               obtain ⟨hcz45_0, hcz45_1, hcz45_2, hcz45_3, hcz45_4, hfz45_0, hfz45_1, hfz45_2, hfz45_3, hfz45_4⟩ := ex5 BK173.out
               go_wp2
               go_ret
               exact ⟨by first | rfl | (simp <;> rfl) | (simp [*] <;> rfl), by repeat (first | (with_reducible first | exact HB.out | apply xA1 | apply xA0 | apply below_drew1 | refine xA6 ?_ GE169.out | refine xA6 ?_ GE173.out) | exact HB.out)⟩
             ·rw [if_neg c35] at H
              have c35b0 : (((xA2 l0_4 0).f0).toList == ([104, 101, 120] : List UInt8)) = false := beq_eq_false_iff_ne.mpr c35
              have c35b1 : (((xA2 l0_4 0).f0).toList != ([104, 101, 120] : List UInt8)) = true := bne_iff_ne.mpr c35
              obtain rfl := Option.some.inj H
              have hnb46 := NB173_169.out
              have hnc46 := NB169_173.out
              obtain ⟨hcz47_0, hcz47_1, hcz47_2, hcz47_3, hcz47_4, hfz47_0, hfz47_1, hfz47_2, hfz47_3, hfz47_4⟩ := ex5 BK173.out
              go_wp2
              go_ret
              exact ⟨by first | rfl | (simp <;> rfl) | (simp [*] <;> rfl), by repeat (first | (with_reducible first | exact HB.out | apply xA1 | apply xA0 | apply below_drew1 | refine xA6 ?_ GE169.out | refine xA6 ?_ GE173.out) | exact HB.out)⟩
            ·replace c34 := Bool.eq_false_iff.mpr c34
             subst c34
             have H1 : (if a0_0.toList = ([118, 111, 108, 117, 109, 101] : List UInt8) then ((xA7.f kj26 ((xA2 l0_4 0).f0) ((xA2 l0_4 0).f1) ((xA2 l0_4 0).f2) ((xA2 l0_4 0).f3) ((xA2 l0_4 0).f4) 1).bind fun t175 => (some t175)) else (some false)) = some r := by rw [if_neg (show ¬ (false = true) by decide)] at H; exact H
             clear H
             have H := H1
             clear H1
             by_cases c48 : a0_0.toList = ([118, 111, 108, 117, 109, 101] : List UInt8)
             ·rw [if_pos c48] at H
              have c48b0 : (a0_0.toList == ([118, 111, 108, 117, 109, 101] : List UInt8)) = true := beq_iff_eq.mpr c48
              have c48b1 : (a0_0.toList != ([118, 111, 108, 117, 109, 101] : List UInt8)) = false := bne_eq_false_iff_eq.mpr c48
              clear c48
              replace H := Option.bind_eq_some_iff.mp H
              obtain ⟨t175, A490, H⟩ := H
              replace H : (some t175) = some r := H
              have A49 := Aside0.mk A490
              clear A490
              obtain rfl := Option.some.inj H
              have hnb50 := NB169_173.out
              have hnc50 := NB173_169.out
              obtain ⟨hcz51_0, hcz51_1, hcz51_2, hcz51_3, hcz51_4, hfz51_0, hfz51_1, hfz51_2, hfz51_3, hfz51_4⟩ := ex5 BK169.out
              obtain ⟨hcz52_0, hcz52_1, hcz52_2, hcz52_3, hcz52_4, hfz52_0, hfz52_1, hfz52_2, hfz52_3, hfz52_4⟩ := ex5 BK173.out
              go_wp2_with (first | (go_at_call 54; (with_reducible refine (xA7.calls kj26 ((xA2 l0_4 0).f0) ((xA2 l0_4 0).f1) ((xA2 l0_4 0).f2) ((xA2 l0_4 0).f3) _ _ ((xA2 l0_4 0).f4) 1 t175 _ ?side1 ?side2 A49.out m_ (by first | (with_reducible exact hmA_.out) | exact xC4 hmA_.out (by repeat (first | (with_reducible first | exact HB.out | apply xA1 | apply xA0 | apply below_drew1 | refine xA6 ?_ GE169.out | refine xA6 ?_ GE173.out) | exact HB.out)) | (repeat (first | exact hmA_.out | refine xBu ?_ | refine mlen_drew ?_)))).mono ?_); (case side1 => repeat (first | exact (Kd.C_below HR172_4.out HB.out) | (with_reducible refine Kd.C_alloc ?_ _) | (with_reducible refine Kd.C_drewN ?_ _) | (with_reducible refine Kd.C_drew ?_))); (case side2 => exact HC172_4.out); rintro e w53 ⟨rfl, hb⟩; have n0_ := Aside0.mk (xAt (g := gb169) (o := .cells #[.string a0_0, .string a0_1, .int .i64 a0_2, .int .i64 a0_3, .slice (some ad172) l0_4.length c0_4] 25 (0, 0)) (by (with_reducible repeat (first | refine xA5 ?_ _ | refine xA8 ?_ | refine xA4 ?_ _)); exact BK169.out) hb); have n1_ := Aside0.mk (xAt (g := gb173) (o := .cells #[.string ((xA2 l0_4 0).f0), .string ((xA2 l0_4 0).f1), .int .i64 ((xA2 l0_4 0).f2), .int .i64 ((xA2 l0_4 0).f3), .slice A172_4 ((xA2 l0_4 0).f4).length c172_4] 25 (0, 0)) (by (with_reducible repeat (first | refine xA5 ?_ _ | refine xA8 ?_ | refine xA4 ?_ _)); exact BK173.out) hb); have n2_ := Aside0.mk (xAi (by repeat (first | (with_reducible first | exact HB.out | apply xA1 | apply xA0 | apply below_drew1 | refine xA6 ?_ GE169.out | refine xA6 ?_ GE173.out) | exact HB.out)) hb); clear BK169; clear BK173; clear HB; have BK169 := n0_; have BK173 := n1_; have HB := n2_; clear n0_ n1_ n2_; (try clear hb); (try clear hb2); (try clear hk); (try clear hi)))
              go_ret
              exact ⟨by first | rfl | (simp <;> rfl) | (simp [*] <;> rfl), by repeat (first | (with_reducible first | exact HB.out | apply xA1 | apply xA0 | apply below_drew1 | refine xA6 ?_ GE169.out | refine xA6 ?_ GE173.out) | exact HB.out)⟩
             ·rw [if_neg c48] at H
              have c48b0 : (a0_0.toList == ([118, 111, 108, 117, 109, 101] : List UInt8)) = false := beq_eq_false_iff_ne.mpr c48
              have c48b1 : (a0_0.toList != ([118, 111, 108, 117, 109, 101] : List UInt8)) = true := bne_iff_ne.mpr c48
              obtain rfl := Option.some.inj H
              have hnb54 := NB169_173.out
              have hnc54 := NB173_169.out
              obtain ⟨hcz55_0, hcz55_1, hcz55_2, hcz55_3, hcz55_4, hfz55_0, hfz55_1, hfz55_2, hfz55_3, hfz55_4⟩ := ex5 BK169.out
              go_wp2
              go_ret
              exact ⟨by first | rfl | (simp <;> rfl) | (simp [*] <;> rfl), by repeat (first | (with_reducible first | exact HB.out | apply xA1 | apply xA0 | apply below_drew1 | refine xA6 ?_ GE169.out | refine xA6 ?_ GE173.out) | exact HB.out)⟩
         ·rw [if_neg c26] at H
          exact absurd H (by simp)
 ·replace c3 := Bool.eq_false_iff.mpr c3
  subst c3
  have H1 : (some false) = some r := by rw [if_neg (show ¬ (false = true) by decide)] at H; exact H
  clear H
  have H := H1
  clear H1
  obtain rfl := Option.some.inj H
  go_enter Tryd.func26, Tryd.ntmps26
  go_wp2_with (first | ((with_reducible refine xBq (N := 1) rfl ?_); (try (refine xCj (by rfl) ?_; dsimp only)); refine xBm ?hg (N := 1) ?hd (cs := #[.string a0_0, .string a0_1, .int .i64 a0_2, .int .i64 a0_3, .slice A0_4 l0_4.length c0_4]) (t := 25) ?hr ?_; (case hd => rfl); (case hg => rfl); (case hr => first | (go_simp; done) | (go_simp; rfl)); intro gb169 hg w56 hbox hb; have n0_ := Aside0.mk (xAi (by repeat (first | (with_reducible first | exact HB.out | apply xA1 | apply xA0 | apply below_drew1) | exact HB.out)) hb); have n1_ := Aside0.mk (hbox); have n2_ := Aside0.mk ((by rw [hg]; exact (xAs (by repeat (first | (with_reducible first | exact HB.out | apply xA1 | apply xA0 | apply below_drew1) | exact HB.out))) : w.heap.size ≤ gb169)); have n3_ := Aside0.mk ((by rw [hg]; exact (xAs (by repeat (first | (with_reducible first | exact HB.out | apply xA1 | apply xA0 | apply below_drew1) | exact HB.out))) : w.heap.size ≤ gb169)); clear HB; have HB := n0_; have BK169 := n1_; have GW169 := n2_; have GE169 := n3_; clear n0_ n1_ n2_ n3_; clear hb hbox hg; obtain ⟨hcz57_0, hcz57_1, hcz57_2, hcz57_3, hcz57_4, hfz57_0, hfz57_1, hfz57_2, hfz57_3, hfz57_4⟩ := ex5 BK169.out) | ((with_reducible refine xAj (f := 51) rfl ?_); refine xB6 (some 6) rfl rfl Tryd.func51 (by kernel_rfl) rfl #[.string a0_1] rfl (by (try simp only [List.map_toArray, List.map_cons, List.map_nil]); first | done | rfl | (simp only [List.length_drop, List.length_take]; rfl)) ?_; (with_reducible refine (xBb.calls k a0_1 false _ A2.out m_ (by first | (with_reducible exact hmA_.out) | exact xC4 hmA_.out (by repeat (first | (with_reducible first | exact HB.out | apply xA1 | apply xA0 | apply below_drew1 | refine xA6 ?_ GE169.out | refine xA6 ?_ GE173.out) | exact HB.out)) | (repeat (first | exact hmA_.out | refine xBu ?_ | refine mlen_drew ?_)))).mono ?_); rintro e w58 ⟨rfl, hb⟩; refine ⟨_, rfl, ?_⟩; have n0_ := Aside0.mk (xAt (g := gb169) (o := .cells #[.string a0_0, .string a0_1, .int .i64 a0_2, .int .i64 a0_3, .slice A0_4 l0_4.length c0_4] 25 (0, 0)) (by (with_reducible repeat (first | refine xA5 ?_ _ | refine xA8 ?_ | refine xA4 ?_ _)); exact BK169.out) hb); have n1_ := Aside0.mk (xAi (by repeat (first | (with_reducible first | exact HB.out | apply xA1 | apply xA0 | apply below_drew1 | refine xA6 ?_ GE169.out) | exact HB.out)) hb); clear BK169; clear HB; have BK169 := n0_; have HB := n1_; clear n0_ n1_; (try clear hb); (try clear hb2); (try clear hk); (try clear hi)))
  go_ret
  exact ⟨by first | rfl | (simp <;> rfl) | (simp [*] <;> rfl), by repeat (first | (with_reducible first | exact HB.out | apply xA1 | apply xA0 | apply below_drew1 | refine xA6 ?_ GE169.out) | exact HB.out)⟩

end Go.Proofs.YtknbfhhmjbnemaaDoor.P
end
