/- SpanLaws: the law's call. -/
import Derived.Test.YtkpdccegamcppaaXCalls
import Derived.Test.YtkpdccegamcppaaXAskD
import Derived.Test.YtkpdccegamcppaaXLaws
import Derived.Test.YtkpdccegamcppaaXRow
namespace Go.Proofs.Ytkpdccegamcppaa.PSpan
open Go.RowKit Go.Proofs.YtkpdccegamcppaaW.PrintWords Go.Proofs.YtkpdccegamcppaaW.PrintLast Go.Proofs.YtkpdccegamcppaaW.PrintMore Go.Proofs.Ytkpdccegamcppaa.SpanP
set_option linter.unusedVariables false
set_option linter.unusedSimpArgs false

set_option maxRecDepth 100000 in
set_option maxHeartbeats 1600000 in
theorem laws_one {w : World} {Aa Ab : Option Addr} {ca cb : Nat} {a b : List Sn} {i : Int} (ha : InP Aa ca a w) (hb : InP Ab cb b w) (la : a.length ≤ 4194304) (lb : b.length ≤ 4194304) (EI : Ev (fun k => posternref07_Is.f k (a.map toR)) false) :
    Calls Try.prog 10 #[.slice Aa a.length ca, .slice Ab b.length cb, .int .i64 i] w (Yes w) := by
  have HL0 := Aside0.mk (((lat_base w).next (Below.refl _ _) (lat_P ha)).next (Below.refl _ _) (lat_P hb))
  clear ha hb
  replace EI := Aside0.mk EI
  have GA := Aside0.mk (fun (W : World) (h : InP Aa ca a W) => c_given h la)
  have GB := Aside0.mk (fun (W : World) (h : InP Ab cb b W) => c_given h lb)
  generalize hme : a.map toR = m1 at *
  generalize hne : b.map toR = m2 at *
  clear hme hne la lb
  go_enter Try.func10, Try.ntmps10
  go_wp2_with fail
  refine (GA.out _ (HL0.out.here.1.2)).mono ?_
  rintro e w1 ⟨Am1, cm1, rfl, hI, hb⟩
  have HL1 := Aside0.mk (HL0.out.next hb (lat_Q hI))
  clear hI hb HL0
  go_wp2_with fail
  refine (c_isQ (HL1.out.here.2) EI.out).mono ?_
  rintro e w2 ⟨rfl, hb⟩
  have HL2 := Aside0.mk (HL1.out.step hb)
  clear hb HL1
  go_wp2_with fail
  refine (c_awake _).mono ?_
  rintro e w3 ⟨rfl, hb⟩
  have HL3 := Aside0.mk (HL2.out.step hb)
  clear hb HL2
  go_wp2_with fail
  go_ret
  exact ⟨rfl, (HL3.out.here.1.1.1)⟩
set_option maxRecDepth 100000 in
set_option maxHeartbeats 1600000 in
theorem laws_two {w : World} {Aa Ab : Option Addr} {ca cb : Nat} {a b : List Sn} {i : Int} (ha : InP Aa ca a w) (hb : InP Ab cb b w) (la : a.length ≤ 4194304) (lb : b.length ≤ 4194304) (EI : Ev (fun k => posternref07_Is.f k (a.map toR)) true) (EJ : Ev (fun k => posternref07_Is.f k (b.map toR)) false) :
    Calls Try.prog 10 #[.slice Aa a.length ca, .slice Ab b.length cb, .int .i64 i] w (Yes w) := by
  have HL0 := Aside0.mk (((lat_base w).next (Below.refl _ _) (lat_P ha)).next (Below.refl _ _) (lat_P hb))
  clear ha hb
  replace EI := Aside0.mk EI
  replace EJ := Aside0.mk EJ
  have GA := Aside0.mk (fun (W : World) (h : InP Aa ca a W) => c_given h la)
  have GB := Aside0.mk (fun (W : World) (h : InP Ab cb b W) => c_given h lb)
  generalize hme : a.map toR = m1 at *
  generalize hne : b.map toR = m2 at *
  clear hme hne la lb
  go_enter Try.func10, Try.ntmps10
  go_wp2_with fail
  refine (GA.out _ (HL0.out.here.1.2)).mono ?_
  rintro e w1 ⟨Am1, cm1, rfl, hI, hb⟩
  have HL1 := Aside0.mk (HL0.out.next hb (lat_Q hI))
  clear hI hb HL0
  go_wp2_with fail
  refine (c_isQ (HL1.out.here.2) EI.out).mono ?_
  rintro e w2 ⟨rfl, hb⟩
  have HL2 := Aside0.mk (HL1.out.step hb)
  clear hb HL1
  go_wp2_with fail
  refine (GB.out _ (HL2.out.here.1.2)).mono ?_
  rintro e w3 ⟨Am2, cm2, rfl, hI, hb⟩
  have HL3 := Aside0.mk (HL2.out.next hb (lat_Q hI))
  clear hI hb HL2
  go_wp2_with fail
  refine (c_isQ (HL3.out.here.2) EJ.out).mono ?_
  rintro e w4 ⟨rfl, hb⟩
  have HL4 := Aside0.mk (HL3.out.step hb)
  clear hb HL3
  go_wp2_with fail
  refine (c_awake _).mono ?_
  rintro e w5 ⟨rfl, hb⟩
  have HL5 := Aside0.mk (HL4.out.step hb)
  clear hb HL4
  go_wp2_with fail
  go_ret
  exact ⟨rfl, (HL5.out.here.1.1.1.1)⟩
set_option maxRecDepth 100000 in
set_option maxHeartbeats 1600000 in
theorem laws_big {w : World} {Aa Ab : Option Addr} {ca cb : Nat} {a b : List Sn} {i : Int} (ha : InP Aa ca a w) (hb : InP Ab cb b w) (la : a.length ≤ 4194304) (lb : b.length ≤ 4194304) {x y z o v0 u v n : List Sn} {e f g h k0 l0 m n0 n1 l1 : Int} (EI : Ev (fun k => posternref07_Is.f k (a.map toR)) true) (EJ : Ev (fun k => posternref07_Is.f k (b.map toR)) true) (EX : Ev (fun k => span_Other.f k a) (x, e)) (EY : Ev (fun k => span_Other.f k x) (y, f)) (EZ : Ev (fun k => span_Minus.f k a b) (z, g)) (EO : Ev (fun k => span_Other.f k b) (o, h)) (EW : Ev (fun k => span_Cross.f k a o) (v0, k0)) (EU : Ev (fun k => span_Union.f k [a, b]) (u, l1, l0)) (EV : Ev (fun k => span_Cross.f k a b) (v, m)) (EM : span_Make.f a = some (n, n1, n0)) (hl : 65536 ≤ a.length + b.length) :
    Calls Try.prog 10 #[.slice Aa a.length ca, .slice Ab b.length cb, .int .i64 i] w (Yes w) := by
  have hc : 65536 ≤ wrap64 ((a.length : Int) + (b.length : Int)) := by unfold wrap64; omega
  clear hl
  have HL0 := Aside0.mk (((lat_base w).next (Below.refl _ _) (lat_P ha)).next (Below.refl _ _) (lat_P hb))
  clear ha hb
  replace EI := Aside0.mk EI
  replace EJ := Aside0.mk EJ
  replace EX := Aside0.mk EX
  replace EY := Aside0.mk EY
  replace EZ := Aside0.mk EZ
  replace EO := Aside0.mk EO
  replace EW := Aside0.mk EW
  replace EU := Aside0.mk EU
  replace EV := Aside0.mk EV
  replace EM := Aside0.mk EM
  have GA := Aside0.mk (fun (W : World) (h : InP Aa ca a W) => c_given h la)
  have GB := Aside0.mk (fun (W : World) (h : InP Ab cb b W) => c_given h lb)
  generalize hme : a.map toR = m1 at *
  generalize hne : b.map toR = m2 at *
  clear hme hne la lb
  go_enter Try.func10, Try.ntmps10
  go_wp2_with fail
  refine (GA.out _ (HL0.out.here.1.2)).mono ?_
  rintro e w1 ⟨Am1, cm1, rfl, hI, hb⟩
  have HL1 := Aside0.mk (HL0.out.next hb (lat_Q hI))
  clear hI hb HL0
  go_wp2_with fail
  refine (c_isQ (HL1.out.here.2) EI.out).mono ?_
  rintro e w2 ⟨rfl, hb⟩
  have HL2 := Aside0.mk (HL1.out.step hb)
  clear hb HL1
  go_wp2_with fail
  refine (GB.out _ (HL2.out.here.1.2)).mono ?_
  rintro e w3 ⟨Am2, cm2, rfl, hI, hb⟩
  have HL3 := Aside0.mk (HL2.out.next hb (lat_Q hI))
  clear hI hb HL2
  go_wp2_with fail
  refine (c_isQ (HL3.out.here.2) EJ.out).mono ?_
  rintro e w4 ⟨rfl, hb⟩
  have HL4 := Aside0.mk (HL3.out.step hb)
  clear hb HL3
  go_wp2_with fail
  refine (c_other (HL4.out.here.1.1.1.2) EX.out).mono ?_
  rintro e w5 ⟨Ax, cx, rfl, hI, hb⟩
  have HL5 := Aside0.mk (HL4.out.next hb (lat_P hI))
  clear hI hb HL4
  go_wp2_with fail
  refine (c_other (HL5.out.here.2) EY.out).mono ?_
  rintro e w6 ⟨Ay, cy, rfl, hI, hb⟩
  have HL6 := Aside0.mk (HL5.out.next hb (lat_P hI))
  clear hI hb HL5
  go_wp2_with fail
  refine (c_minus (HL6.out.here.1.1.1.1.1.2) (HL6.out.here.1.1.1.1.2) EZ.out).mono ?_
  rintro e w7 ⟨Az, cz, rfl, hI, hb⟩
  have HL7 := Aside0.mk (HL6.out.next hb (lat_P hI))
  clear hI hb HL6
  go_wp2_with fail
  refine (c_other (HL7.out.here.1.1.1.1.1.2) EO.out).mono ?_
  rintro e w8 ⟨Ao, co, rfl, hI, hb⟩
  have HL8 := Aside0.mk (HL7.out.next hb (lat_P hI))
  clear hI hb HL7
  go_wp2_with fail
  refine (c_cross (HL8.out.here.1.1.1.1.1.1.1.2) (HL8.out.here.2) EW.out).mono ?_
  rintro e w9 ⟨Av0, cv0, rfl, hI, hb⟩
  have HL9 := Aside0.mk (HL8.out.next hb (lat_P hI))
  clear hI hb HL8
  go_wp2_with fail
  refine (c_union2 (HL9.out.here.1.1.1.1.1.1.1.1.2) (HL9.out.here.1.1.1.1.1.1.1.2) EU.out).mono ?_
  rintro e w10 ⟨Au, cu, rfl, hI, hb⟩
  have HL10 := Aside0.mk (HL9.out.next hb (lat_P hI))
  clear hI hb HL9
  go_wp2_with fail
  refine (c_cross (HL10.out.here.1.1.1.1.1.1.1.1.1.2) (HL10.out.here.1.1.1.1.1.1.1.1.2) EV.out).mono ?_
  rintro e w11 ⟨Av, cv, rfl, hI, hb⟩
  have HL11 := Aside0.mk (HL10.out.next hb (lat_P hI))
  clear hI hb HL10
  go_wp2_with fail
  refine (c_make (HL11.out.here.1.1.1.1.1.1.1.1.1.1.2) EM.out).mono ?_
  rintro e w12 ⟨An, cn, rfl, hI, hb⟩
  have HL12 := Aside0.mk (HL11.out.next hb (lat_P hI))
  clear hI hb HL11
  go_wp2_with fail
  refine (c_awake _).mono ?_
  rintro e w13 ⟨rfl, hb⟩
  have HL13 := Aside0.mk (HL12.out.step hb)
  clear hb HL12
  go_wp2_with fail
  go_ret
  exact ⟨rfl, (HL13.out.here.1.1.1.1.1.1.1.1.1.1.1.1)⟩
set_option maxRecDepth 100000 in
set_option maxHeartbeats 1600000 in
theorem laws_low {w : World} {Aa Ab : Option Addr} {ca cb : Nat} {a b : List Sn} {i : Int} (ha : InP Aa ca a w) (hb : InP Ab cb b w) (la : a.length ≤ 4194304) (lb : b.length ≤ 4194304) {x o u v q : List Sn} {l1 n1 : Int} {ca0 cb0 cu cv cx p : Int} (EI : Ev (fun k => posternref07_Is.f k (a.map toR)) true) (EJ : Ev (fun k => posternref07_Is.f k (b.map toR)) true) (EX : Ev (fun k => span_Other.f k a) (x, 0)) (EY : Ev (fun k => span_Other.f k x) (a, 0)) (EZ : Ev (fun k => span_Minus.f k a b) (q, 0)) (EO : Ev (fun k => span_Other.f k b) (o, 0)) (EW : Ev (fun k => span_Cross.f k a o) (q, 0)) (EU : Ev (fun k => span_Union.f k [a, b]) (u, l1, 0)) (EV : Ev (fun k => span_Cross.f k a b) (v, 0)) (EM : span_Make.f a = some (a, n1, 0)) (lq : q.length ≤ 4194304) (hl : a.length + b.length < 65536) (C1 : Ev (fun k => span_Count.f k a) ca0) (C2 : Ev (fun k => span_Count.f k b) cb0) (C3 : Ev (fun k => span_Count.f k u) cu) (C4 : Ev (fun k => span_Count.f k v) cv) (C5 : Ev (fun k => span_Count.f k x) cx) (S1 : wrap64 (ca0 + cb0) = wrap64 (cu + cv)) (S2 : wrap64 (ca0 + cx) = 1114112) (EA : Ev (fun k => span_At.f k a i) p) (hp : p = -1) (hi : i < 0) :
    Calls Try.prog 10 #[.slice Aa a.length ca, .slice Ab b.length cb, .int .i64 i] w (Yes w) := by
  have hc : wrap64 ((a.length : Int) + (b.length : Int)) < 65536 := by unfold wrap64; omega
  clear hl
  have HL0 := Aside0.mk (((lat_base w).next (Below.refl _ _) (lat_P ha)).next (Below.refl _ _) (lat_P hb))
  clear ha hb
  replace EI := Aside0.mk EI
  replace EJ := Aside0.mk EJ
  replace EX := Aside0.mk EX
  replace EY := Aside0.mk EY
  replace EZ := Aside0.mk EZ
  replace EO := Aside0.mk EO
  replace EW := Aside0.mk EW
  replace EU := Aside0.mk EU
  replace EV := Aside0.mk EV
  replace EM := Aside0.mk EM
  replace C1 := Aside0.mk C1
  replace C2 := Aside0.mk C2
  replace C3 := Aside0.mk C3
  replace C4 := Aside0.mk C4
  replace C5 := Aside0.mk C5
  replace EA := Aside0.mk EA
  have GA := Aside0.mk (fun (W : World) (h : InP Aa ca a W) => c_given h la)
  have GB := Aside0.mk (fun (W : World) (h : InP Ab cb b W) => c_given h lb)
  have GQ := Aside0.mk (fun (W : World) (A : Option Addr) (c : Nat) (h : InP A c q W) => c_given h lq)
  have ea := alike_ev a (a.map toR) (by omega)
  have eq := alike_ev q (q.map toR) (by omega)
  rw [decide_eq_true rfl] at ea eq
  have AL := Aside0.mk (fun (W : World) (A A' : Option Addr) (c c' : Nat) (h : InP A c a W) (h' : InQ A' c' (a.map toR) W) => c_alike h h' ea)
  have AM := Aside0.mk (fun (W : World) (A A' : Option Addr) (c c' : Nat) (h : InP A c q W) (h' : InQ A' c' (q.map toR) W) => c_alike h h' eq)
  clear ea eq
  generalize hme : a.map toR = m1 at *
  generalize hne : b.map toR = m2 at *
  generalize hqe : q.map toR = m4 at *
  clear hme hne hqe la lb lq
  go_enter Try.func10, Try.ntmps10
  go_wp2_with fail
  refine (GA.out _ (HL0.out.here.1.2)).mono ?_
  rintro e w1 ⟨Am1, cm1, rfl, hI, hb⟩
  have HL1 := Aside0.mk (HL0.out.next hb (lat_Q hI))
  clear hI hb HL0
  go_wp2_with fail
  refine (c_isQ (HL1.out.here.2) EI.out).mono ?_
  rintro e w2 ⟨rfl, hb⟩
  have HL2 := Aside0.mk (HL1.out.step hb)
  clear hb HL1
  go_wp2_with fail
  refine (GB.out _ (HL2.out.here.1.2)).mono ?_
  rintro e w3 ⟨Am2, cm2, rfl, hI, hb⟩
  have HL3 := Aside0.mk (HL2.out.next hb (lat_Q hI))
  clear hI hb HL2
  go_wp2_with fail
  refine (c_isQ (HL3.out.here.2) EJ.out).mono ?_
  rintro e w4 ⟨rfl, hb⟩
  have HL4 := Aside0.mk (HL3.out.step hb)
  clear hb HL3
  go_wp2_with fail
  refine (c_other (HL4.out.here.1.1.1.2) EX.out).mono ?_
  rintro e w5 ⟨Ax, cx, rfl, hI, hb⟩
  have HL5 := Aside0.mk (HL4.out.next hb (lat_P hI))
  clear hI hb HL4
  go_wp2_with fail
  refine (c_other (HL5.out.here.2) EY.out).mono ?_
  rintro e w6 ⟨Ay, cy, rfl, hI, hb⟩
  have HL6 := Aside0.mk (HL5.out.next hb (lat_P hI))
  clear hI hb HL5
  go_wp2_with fail
  refine (c_minus (HL6.out.here.1.1.1.1.1.2) (HL6.out.here.1.1.1.1.2) EZ.out).mono ?_
  rintro e w7 ⟨Az, cz, rfl, hI, hb⟩
  have HL7 := Aside0.mk (HL6.out.next hb (lat_P hI))
  clear hI hb HL6
  go_wp2_with fail
  refine (c_other (HL7.out.here.1.1.1.1.1.2) EO.out).mono ?_
  rintro e w8 ⟨Ao, co, rfl, hI, hb⟩
  have HL8 := Aside0.mk (HL7.out.next hb (lat_P hI))
  clear hI hb HL7
  go_wp2_with fail
  refine (c_cross (HL8.out.here.1.1.1.1.1.1.1.2) (HL8.out.here.2) EW.out).mono ?_
  rintro e w9 ⟨Av0, cv0, rfl, hI, hb⟩
  have HL9 := Aside0.mk (HL8.out.next hb (lat_P hI))
  clear hI hb HL8
  go_wp2_with fail
  refine (c_union2 (HL9.out.here.1.1.1.1.1.1.1.1.2) (HL9.out.here.1.1.1.1.1.1.1.2) EU.out).mono ?_
  rintro e w10 ⟨Au, cu, rfl, hI, hb⟩
  have HL10 := Aside0.mk (HL9.out.next hb (lat_P hI))
  clear hI hb HL9
  go_wp2_with fail
  refine (c_cross (HL10.out.here.1.1.1.1.1.1.1.1.1.2) (HL10.out.here.1.1.1.1.1.1.1.1.2) EV.out).mono ?_
  rintro e w11 ⟨Av, cv, rfl, hI, hb⟩
  have HL11 := Aside0.mk (HL10.out.next hb (lat_P hI))
  clear hI hb HL10
  go_wp2_with fail
  refine (c_make (HL11.out.here.1.1.1.1.1.1.1.1.1.1.2) EM.out).mono ?_
  rintro e w12 ⟨An, cn, rfl, hI, hb⟩
  have HL12 := Aside0.mk (HL11.out.next hb (lat_P hI))
  clear hI hb HL11
  go_wp2_with fail
  refine (c_awake _).mono ?_
  rintro e w13 ⟨rfl, hb⟩
  have HL13 := Aside0.mk (HL12.out.step hb)
  clear hb HL12
  go_wp2_with fail
  refine (GA.out _ (HL13.out.here.1.1.1.1.1.1.1.1.1.1.1.2)).mono ?_
  rintro e w14 ⟨Am3, cm3, rfl, hI, hb⟩
  have HL14 := Aside0.mk (HL13.out.next hb (lat_Q hI))
  clear hI hb HL13
  go_wp2_with fail
  refine (AL.out _ _ _ _ _ (HL14.out.here.1.1.1.1.1.1.1.2) (HL14.out.here.2)).mono ?_
  rintro e w15 ⟨rfl, hb⟩
  have HL15 := Aside0.mk (HL14.out.step hb)
  clear hb HL14
  go_wp2_with fail
  refine (GQ.out _ _ _ (HL15.out.here.1.1.1.1.2)).mono ?_
  rintro e w16 ⟨Am4, cm4, rfl, hI, hb⟩
  have HL16 := Aside0.mk (HL15.out.next hb (lat_Q hI))
  clear hI hb HL15
  go_wp2_with fail
  refine (AM.out _ _ _ _ _ (HL16.out.here.1.1.1.1.1.1.1.2) (HL16.out.here.2)).mono ?_
  rintro e w17 ⟨rfl, hb⟩
  have HL17 := Aside0.mk (HL16.out.step hb)
  clear hb HL16
  go_wp2_with fail
  refine (GA.out _ (HL17.out.here.1.1.1.1.1.1.1.1.1.1.1.1.1.2)).mono ?_
  rintro e w18 ⟨Am5, cm5, rfl, hI, hb⟩
  have HL18 := Aside0.mk (HL17.out.next hb (lat_Q hI))
  clear hI hb HL17
  go_wp2_with fail
  refine (AL.out _ _ _ _ _ (HL18.out.here.1.1.1.2) (HL18.out.here.2)).mono ?_
  rintro e w19 ⟨rfl, hb⟩
  have HL19 := Aside0.mk (HL18.out.step hb)
  clear hb HL18
  go_wp2_with fail
  refine (c_count (HL19.out.here.1.1.1.1.1.1.1.1.1.1.1.1.1.1.2) C1.out).mono ?_
  rintro e w20 ⟨rfl, hb⟩
  have HL20 := Aside0.mk (HL19.out.step hb)
  clear hb HL19
  go_wp2_with fail
  refine (c_count (HL20.out.here.1.1.1.1.1.1.1.1.1.1.1.1.1.2) C2.out).mono ?_
  rintro e w21 ⟨rfl, hb⟩
  have HL21 := Aside0.mk (HL20.out.step hb)
  clear hb HL20
  go_wp2_with fail
  refine (c_count (HL21.out.here.1.1.1.1.1.2) C3.out).mono ?_
  rintro e w22 ⟨rfl, hb⟩
  have HL22 := Aside0.mk (HL21.out.step hb)
  clear hb HL21
  go_wp2_with fail
  refine (c_count (HL22.out.here.1.1.1.1.2) C4.out).mono ?_
  rintro e w23 ⟨rfl, hb⟩
  have HL23 := Aside0.mk (HL22.out.step hb)
  clear hb HL22
  go_wp2_with fail
  refine (c_count (HL23.out.here.1.1.1.1.1.1.1.1.1.1.1.1.1.1.2) C1.out).mono ?_
  rintro e w24 ⟨rfl, hb⟩
  have HL24 := Aside0.mk (HL23.out.step hb)
  clear hb HL23
  go_wp2_with fail
  refine (c_count (HL24.out.here.1.1.1.1.1.1.1.1.1.1.2) C5.out).mono ?_
  rintro e w25 ⟨rfl, hb⟩
  have HL25 := Aside0.mk (HL24.out.step hb)
  clear hb HL24
  go_wp2_with fail
  refine (c_at i (HL25.out.here.1.1.1.1.1.1.1.1.1.1.1.1.1.1.2) EA.out).mono ?_
  rintro e w26 ⟨rfl, hb⟩
  have HL26 := Aside0.mk (HL25.out.step hb)
  clear hb HL25
  go_wp2_with fail
  go_ret
  exact ⟨rfl, (HL26.out.here.1.1.1.1.1.1.1.1.1.1.1.1.1.1.1)⟩
set_option maxRecDepth 100000 in
set_option maxHeartbeats 1600000 in
theorem laws_out {w : World} {Aa Ab : Option Addr} {ca cb : Nat} {a b : List Sn} {i : Int} (ha : InP Aa ca a w) (hb : InP Ab cb b w) (la : a.length ≤ 4194304) (lb : b.length ≤ 4194304) {x o u v q : List Sn} {l1 n1 : Int} {ca0 cb0 cu cv cx p : Int} (EI : Ev (fun k => posternref07_Is.f k (a.map toR)) true) (EJ : Ev (fun k => posternref07_Is.f k (b.map toR)) true) (EX : Ev (fun k => span_Other.f k a) (x, 0)) (EY : Ev (fun k => span_Other.f k x) (a, 0)) (EZ : Ev (fun k => span_Minus.f k a b) (q, 0)) (EO : Ev (fun k => span_Other.f k b) (o, 0)) (EW : Ev (fun k => span_Cross.f k a o) (q, 0)) (EU : Ev (fun k => span_Union.f k [a, b]) (u, l1, 0)) (EV : Ev (fun k => span_Cross.f k a b) (v, 0)) (EM : span_Make.f a = some (a, n1, 0)) (lq : q.length ≤ 4194304) (hl : a.length + b.length < 65536) (C1 : Ev (fun k => span_Count.f k a) ca0) (C2 : Ev (fun k => span_Count.f k b) cb0) (C3 : Ev (fun k => span_Count.f k u) cu) (C4 : Ev (fun k => span_Count.f k v) cv) (C5 : Ev (fun k => span_Count.f k x) cx) (S1 : wrap64 (ca0 + cb0) = wrap64 (cu + cv)) (S2 : wrap64 (ca0 + cx) = 1114112) (EA : Ev (fun k => span_At.f k a i) p) (hp : p = -1) (hi : ¬ i < 0) (hj : ca0 ≤ i) :
    Calls Try.prog 10 #[.slice Aa a.length ca, .slice Ab b.length cb, .int .i64 i] w (Yes w) := by
  have hc : wrap64 ((a.length : Int) + (b.length : Int)) < 65536 := by unfold wrap64; omega
  clear hl
  have HL0 := Aside0.mk (((lat_base w).next (Below.refl _ _) (lat_P ha)).next (Below.refl _ _) (lat_P hb))
  clear ha hb
  replace EI := Aside0.mk EI
  replace EJ := Aside0.mk EJ
  replace EX := Aside0.mk EX
  replace EY := Aside0.mk EY
  replace EZ := Aside0.mk EZ
  replace EO := Aside0.mk EO
  replace EW := Aside0.mk EW
  replace EU := Aside0.mk EU
  replace EV := Aside0.mk EV
  replace EM := Aside0.mk EM
  replace C1 := Aside0.mk C1
  replace C2 := Aside0.mk C2
  replace C3 := Aside0.mk C3
  replace C4 := Aside0.mk C4
  replace C5 := Aside0.mk C5
  replace EA := Aside0.mk EA
  have GA := Aside0.mk (fun (W : World) (h : InP Aa ca a W) => c_given h la)
  have GB := Aside0.mk (fun (W : World) (h : InP Ab cb b W) => c_given h lb)
  have GQ := Aside0.mk (fun (W : World) (A : Option Addr) (c : Nat) (h : InP A c q W) => c_given h lq)
  have ea := alike_ev a (a.map toR) (by omega)
  have eq := alike_ev q (q.map toR) (by omega)
  rw [decide_eq_true rfl] at ea eq
  have AL := Aside0.mk (fun (W : World) (A A' : Option Addr) (c c' : Nat) (h : InP A c a W) (h' : InQ A' c' (a.map toR) W) => c_alike h h' ea)
  have AM := Aside0.mk (fun (W : World) (A A' : Option Addr) (c c' : Nat) (h : InP A c q W) (h' : InQ A' c' (q.map toR) W) => c_alike h h' eq)
  clear ea eq
  generalize hme : a.map toR = m1 at *
  generalize hne : b.map toR = m2 at *
  generalize hqe : q.map toR = m4 at *
  clear hme hne hqe la lb lq
  go_enter Try.func10, Try.ntmps10
  go_wp2_with fail
  refine (GA.out _ (HL0.out.here.1.2)).mono ?_
  rintro e w1 ⟨Am1, cm1, rfl, hI, hb⟩
  have HL1 := Aside0.mk (HL0.out.next hb (lat_Q hI))
  clear hI hb HL0
  go_wp2_with fail
  refine (c_isQ (HL1.out.here.2) EI.out).mono ?_
  rintro e w2 ⟨rfl, hb⟩
  have HL2 := Aside0.mk (HL1.out.step hb)
  clear hb HL1
  go_wp2_with fail
  refine (GB.out _ (HL2.out.here.1.2)).mono ?_
  rintro e w3 ⟨Am2, cm2, rfl, hI, hb⟩
  have HL3 := Aside0.mk (HL2.out.next hb (lat_Q hI))
  clear hI hb HL2
  go_wp2_with fail
  refine (c_isQ (HL3.out.here.2) EJ.out).mono ?_
  rintro e w4 ⟨rfl, hb⟩
  have HL4 := Aside0.mk (HL3.out.step hb)
  clear hb HL3
  go_wp2_with fail
  refine (c_other (HL4.out.here.1.1.1.2) EX.out).mono ?_
  rintro e w5 ⟨Ax, cx, rfl, hI, hb⟩
  have HL5 := Aside0.mk (HL4.out.next hb (lat_P hI))
  clear hI hb HL4
  go_wp2_with fail
  refine (c_other (HL5.out.here.2) EY.out).mono ?_
  rintro e w6 ⟨Ay, cy, rfl, hI, hb⟩
  have HL6 := Aside0.mk (HL5.out.next hb (lat_P hI))
  clear hI hb HL5
  go_wp2_with fail
  refine (c_minus (HL6.out.here.1.1.1.1.1.2) (HL6.out.here.1.1.1.1.2) EZ.out).mono ?_
  rintro e w7 ⟨Az, cz, rfl, hI, hb⟩
  have HL7 := Aside0.mk (HL6.out.next hb (lat_P hI))
  clear hI hb HL6
  go_wp2_with fail
  refine (c_other (HL7.out.here.1.1.1.1.1.2) EO.out).mono ?_
  rintro e w8 ⟨Ao, co, rfl, hI, hb⟩
  have HL8 := Aside0.mk (HL7.out.next hb (lat_P hI))
  clear hI hb HL7
  go_wp2_with fail
  refine (c_cross (HL8.out.here.1.1.1.1.1.1.1.2) (HL8.out.here.2) EW.out).mono ?_
  rintro e w9 ⟨Av0, cv0, rfl, hI, hb⟩
  have HL9 := Aside0.mk (HL8.out.next hb (lat_P hI))
  clear hI hb HL8
  go_wp2_with fail
  refine (c_union2 (HL9.out.here.1.1.1.1.1.1.1.1.2) (HL9.out.here.1.1.1.1.1.1.1.2) EU.out).mono ?_
  rintro e w10 ⟨Au, cu, rfl, hI, hb⟩
  have HL10 := Aside0.mk (HL9.out.next hb (lat_P hI))
  clear hI hb HL9
  go_wp2_with fail
  refine (c_cross (HL10.out.here.1.1.1.1.1.1.1.1.1.2) (HL10.out.here.1.1.1.1.1.1.1.1.2) EV.out).mono ?_
  rintro e w11 ⟨Av, cv, rfl, hI, hb⟩
  have HL11 := Aside0.mk (HL10.out.next hb (lat_P hI))
  clear hI hb HL10
  go_wp2_with fail
  refine (c_make (HL11.out.here.1.1.1.1.1.1.1.1.1.1.2) EM.out).mono ?_
  rintro e w12 ⟨An, cn, rfl, hI, hb⟩
  have HL12 := Aside0.mk (HL11.out.next hb (lat_P hI))
  clear hI hb HL11
  go_wp2_with fail
  refine (c_awake _).mono ?_
  rintro e w13 ⟨rfl, hb⟩
  have HL13 := Aside0.mk (HL12.out.step hb)
  clear hb HL12
  go_wp2_with fail
  refine (GA.out _ (HL13.out.here.1.1.1.1.1.1.1.1.1.1.1.2)).mono ?_
  rintro e w14 ⟨Am3, cm3, rfl, hI, hb⟩
  have HL14 := Aside0.mk (HL13.out.next hb (lat_Q hI))
  clear hI hb HL13
  go_wp2_with fail
  refine (AL.out _ _ _ _ _ (HL14.out.here.1.1.1.1.1.1.1.2) (HL14.out.here.2)).mono ?_
  rintro e w15 ⟨rfl, hb⟩
  have HL15 := Aside0.mk (HL14.out.step hb)
  clear hb HL14
  go_wp2_with fail
  refine (GQ.out _ _ _ (HL15.out.here.1.1.1.1.2)).mono ?_
  rintro e w16 ⟨Am4, cm4, rfl, hI, hb⟩
  have HL16 := Aside0.mk (HL15.out.next hb (lat_Q hI))
  clear hI hb HL15
  go_wp2_with fail
  refine (AM.out _ _ _ _ _ (HL16.out.here.1.1.1.1.1.1.1.2) (HL16.out.here.2)).mono ?_
  rintro e w17 ⟨rfl, hb⟩
  have HL17 := Aside0.mk (HL16.out.step hb)
  clear hb HL16
  go_wp2_with fail
  refine (GA.out _ (HL17.out.here.1.1.1.1.1.1.1.1.1.1.1.1.1.2)).mono ?_
  rintro e w18 ⟨Am5, cm5, rfl, hI, hb⟩
  have HL18 := Aside0.mk (HL17.out.next hb (lat_Q hI))
  clear hI hb HL17
  go_wp2_with fail
  refine (AL.out _ _ _ _ _ (HL18.out.here.1.1.1.2) (HL18.out.here.2)).mono ?_
  rintro e w19 ⟨rfl, hb⟩
  have HL19 := Aside0.mk (HL18.out.step hb)
  clear hb HL18
  go_wp2_with fail
  refine (c_count (HL19.out.here.1.1.1.1.1.1.1.1.1.1.1.1.1.1.2) C1.out).mono ?_
  rintro e w20 ⟨rfl, hb⟩
  have HL20 := Aside0.mk (HL19.out.step hb)
  clear hb HL19
  go_wp2_with fail
  refine (c_count (HL20.out.here.1.1.1.1.1.1.1.1.1.1.1.1.1.2) C2.out).mono ?_
  rintro e w21 ⟨rfl, hb⟩
  have HL21 := Aside0.mk (HL20.out.step hb)
  clear hb HL20
  go_wp2_with fail
  refine (c_count (HL21.out.here.1.1.1.1.1.2) C3.out).mono ?_
  rintro e w22 ⟨rfl, hb⟩
  have HL22 := Aside0.mk (HL21.out.step hb)
  clear hb HL21
  go_wp2_with fail
  refine (c_count (HL22.out.here.1.1.1.1.2) C4.out).mono ?_
  rintro e w23 ⟨rfl, hb⟩
  have HL23 := Aside0.mk (HL22.out.step hb)
  clear hb HL22
  go_wp2_with fail
  refine (c_count (HL23.out.here.1.1.1.1.1.1.1.1.1.1.1.1.1.1.2) C1.out).mono ?_
  rintro e w24 ⟨rfl, hb⟩
  have HL24 := Aside0.mk (HL23.out.step hb)
  clear hb HL23
  go_wp2_with fail
  refine (c_count (HL24.out.here.1.1.1.1.1.1.1.1.1.1.2) C5.out).mono ?_
  rintro e w25 ⟨rfl, hb⟩
  have HL25 := Aside0.mk (HL24.out.step hb)
  clear hb HL24
  go_wp2_with fail
  refine (c_at i (HL25.out.here.1.1.1.1.1.1.1.1.1.1.1.1.1.1.2) EA.out).mono ?_
  rintro e w26 ⟨rfl, hb⟩
  have HL26 := Aside0.mk (HL25.out.step hb)
  clear hb HL25
  go_wp2_with fail
  refine (c_count (HL26.out.here.1.1.1.1.1.1.1.1.1.1.1.1.1.1.2) C1.out).mono ?_
  rintro e w27 ⟨rfl, hb⟩
  have HL27 := Aside0.mk (HL26.out.step hb)
  clear hb HL26
  go_wp2_with fail
  go_ret
  exact ⟨by simp [hi, hj], (HL27.out.here.1.1.1.1.1.1.1.1.1.1.1.1.1.1.1)⟩
set_option maxRecDepth 100000 in
set_option maxHeartbeats 1600000 in
theorem laws_in {w : World} {Aa Ab : Option Addr} {ca cb : Nat} {a b : List Sn} {i : Int} (ha : InP Aa ca a w) (hb : InP Ab cb b w) (la : a.length ≤ 4194304) (lb : b.length ≤ 4194304) {x o u v q : List Sn} {l1 n1 : Int} {ca0 cb0 cu cv cx p : Int} (EI : Ev (fun k => posternref07_Is.f k (a.map toR)) true) (EJ : Ev (fun k => posternref07_Is.f k (b.map toR)) true) (EX : Ev (fun k => span_Other.f k a) (x, 0)) (EY : Ev (fun k => span_Other.f k x) (a, 0)) (EZ : Ev (fun k => span_Minus.f k a b) (q, 0)) (EO : Ev (fun k => span_Other.f k b) (o, 0)) (EW : Ev (fun k => span_Cross.f k a o) (q, 0)) (EU : Ev (fun k => span_Union.f k [a, b]) (u, l1, 0)) (EV : Ev (fun k => span_Cross.f k a b) (v, 0)) (EM : span_Make.f a = some (a, n1, 0)) (lq : q.length ≤ 4194304) (hl : a.length + b.length < 65536) (C1 : Ev (fun k => span_Count.f k a) ca0) (C2 : Ev (fun k => span_Count.f k b) cb0) (C3 : Ev (fun k => span_Count.f k u) cu) (C4 : Ev (fun k => span_Count.f k v) cv) (C5 : Ev (fun k => span_Count.f k x) cx) (S1 : wrap64 (ca0 + cb0) = wrap64 (cu + cv)) (S2 : wrap64 (ca0 + cx) = 1114112) (EA : Ev (fun k => span_At.f k a i) p) (hp : p ≠ -1) (E1 : Ev (fun k => span_Has.f k a p) true) (E2 : Ev (fun k => span_Place.f k a p) i) (E3 : Ev (fun k => span_Next.f k a p) p) :
    Calls Try.prog 10 #[.slice Aa a.length ca, .slice Ab b.length cb, .int .i64 i] w (Yes w) := by
  have hc : wrap64 ((a.length : Int) + (b.length : Int)) < 65536 := by unfold wrap64; omega
  clear hl
  have HL0 := Aside0.mk (((lat_base w).next (Below.refl _ _) (lat_P ha)).next (Below.refl _ _) (lat_P hb))
  clear ha hb
  replace EI := Aside0.mk EI
  replace EJ := Aside0.mk EJ
  replace EX := Aside0.mk EX
  replace EY := Aside0.mk EY
  replace EZ := Aside0.mk EZ
  replace EO := Aside0.mk EO
  replace EW := Aside0.mk EW
  replace EU := Aside0.mk EU
  replace EV := Aside0.mk EV
  replace EM := Aside0.mk EM
  replace C1 := Aside0.mk C1
  replace C2 := Aside0.mk C2
  replace C3 := Aside0.mk C3
  replace C4 := Aside0.mk C4
  replace C5 := Aside0.mk C5
  replace EA := Aside0.mk EA
  replace E1 := Aside0.mk E1
  replace E2 := Aside0.mk E2
  replace E3 := Aside0.mk E3
  have GA := Aside0.mk (fun (W : World) (h : InP Aa ca a W) => c_given h la)
  have GB := Aside0.mk (fun (W : World) (h : InP Ab cb b W) => c_given h lb)
  have GQ := Aside0.mk (fun (W : World) (A : Option Addr) (c : Nat) (h : InP A c q W) => c_given h lq)
  have ea := alike_ev a (a.map toR) (by omega)
  have eq := alike_ev q (q.map toR) (by omega)
  rw [decide_eq_true rfl] at ea eq
  have AL := Aside0.mk (fun (W : World) (A A' : Option Addr) (c c' : Nat) (h : InP A c a W) (h' : InQ A' c' (a.map toR) W) => c_alike h h' ea)
  have AM := Aside0.mk (fun (W : World) (A A' : Option Addr) (c c' : Nat) (h : InP A c q W) (h' : InQ A' c' (q.map toR) W) => c_alike h h' eq)
  clear ea eq
  generalize hme : a.map toR = m1 at *
  generalize hne : b.map toR = m2 at *
  generalize hqe : q.map toR = m4 at *
  clear hme hne hqe la lb lq
  go_enter Try.func10, Try.ntmps10
  go_wp2_with fail
  refine (GA.out _ (HL0.out.here.1.2)).mono ?_
  rintro e w1 ⟨Am1, cm1, rfl, hI, hb⟩
  have HL1 := Aside0.mk (HL0.out.next hb (lat_Q hI))
  clear hI hb HL0
  go_wp2_with fail
  refine (c_isQ (HL1.out.here.2) EI.out).mono ?_
  rintro e w2 ⟨rfl, hb⟩
  have HL2 := Aside0.mk (HL1.out.step hb)
  clear hb HL1
  go_wp2_with fail
  refine (GB.out _ (HL2.out.here.1.2)).mono ?_
  rintro e w3 ⟨Am2, cm2, rfl, hI, hb⟩
  have HL3 := Aside0.mk (HL2.out.next hb (lat_Q hI))
  clear hI hb HL2
  go_wp2_with fail
  refine (c_isQ (HL3.out.here.2) EJ.out).mono ?_
  rintro e w4 ⟨rfl, hb⟩
  have HL4 := Aside0.mk (HL3.out.step hb)
  clear hb HL3
  go_wp2_with fail
  refine (c_other (HL4.out.here.1.1.1.2) EX.out).mono ?_
  rintro e w5 ⟨Ax, cx, rfl, hI, hb⟩
  have HL5 := Aside0.mk (HL4.out.next hb (lat_P hI))
  clear hI hb HL4
  go_wp2_with fail
  refine (c_other (HL5.out.here.2) EY.out).mono ?_
  rintro e w6 ⟨Ay, cy, rfl, hI, hb⟩
  have HL6 := Aside0.mk (HL5.out.next hb (lat_P hI))
  clear hI hb HL5
  go_wp2_with fail
  refine (c_minus (HL6.out.here.1.1.1.1.1.2) (HL6.out.here.1.1.1.1.2) EZ.out).mono ?_
  rintro e w7 ⟨Az, cz, rfl, hI, hb⟩
  have HL7 := Aside0.mk (HL6.out.next hb (lat_P hI))
  clear hI hb HL6
  go_wp2_with fail
  refine (c_other (HL7.out.here.1.1.1.1.1.2) EO.out).mono ?_
  rintro e w8 ⟨Ao, co, rfl, hI, hb⟩
  have HL8 := Aside0.mk (HL7.out.next hb (lat_P hI))
  clear hI hb HL7
  go_wp2_with fail
  refine (c_cross (HL8.out.here.1.1.1.1.1.1.1.2) (HL8.out.here.2) EW.out).mono ?_
  rintro e w9 ⟨Av0, cv0, rfl, hI, hb⟩
  have HL9 := Aside0.mk (HL8.out.next hb (lat_P hI))
  clear hI hb HL8
  go_wp2_with fail
  refine (c_union2 (HL9.out.here.1.1.1.1.1.1.1.1.2) (HL9.out.here.1.1.1.1.1.1.1.2) EU.out).mono ?_
  rintro e w10 ⟨Au, cu, rfl, hI, hb⟩
  have HL10 := Aside0.mk (HL9.out.next hb (lat_P hI))
  clear hI hb HL9
  go_wp2_with fail
  refine (c_cross (HL10.out.here.1.1.1.1.1.1.1.1.1.2) (HL10.out.here.1.1.1.1.1.1.1.1.2) EV.out).mono ?_
  rintro e w11 ⟨Av, cv, rfl, hI, hb⟩
  have HL11 := Aside0.mk (HL10.out.next hb (lat_P hI))
  clear hI hb HL10
  go_wp2_with fail
  refine (c_make (HL11.out.here.1.1.1.1.1.1.1.1.1.1.2) EM.out).mono ?_
  rintro e w12 ⟨An, cn, rfl, hI, hb⟩
  have HL12 := Aside0.mk (HL11.out.next hb (lat_P hI))
  clear hI hb HL11
  go_wp2_with fail
  refine (c_awake _).mono ?_
  rintro e w13 ⟨rfl, hb⟩
  have HL13 := Aside0.mk (HL12.out.step hb)
  clear hb HL12
  go_wp2_with fail
  refine (GA.out _ (HL13.out.here.1.1.1.1.1.1.1.1.1.1.1.2)).mono ?_
  rintro e w14 ⟨Am3, cm3, rfl, hI, hb⟩
  have HL14 := Aside0.mk (HL13.out.next hb (lat_Q hI))
  clear hI hb HL13
  go_wp2_with fail
  refine (AL.out _ _ _ _ _ (HL14.out.here.1.1.1.1.1.1.1.2) (HL14.out.here.2)).mono ?_
  rintro e w15 ⟨rfl, hb⟩
  have HL15 := Aside0.mk (HL14.out.step hb)
  clear hb HL14
  go_wp2_with fail
  refine (GQ.out _ _ _ (HL15.out.here.1.1.1.1.2)).mono ?_
  rintro e w16 ⟨Am4, cm4, rfl, hI, hb⟩
  have HL16 := Aside0.mk (HL15.out.next hb (lat_Q hI))
  clear hI hb HL15
  go_wp2_with fail
  refine (AM.out _ _ _ _ _ (HL16.out.here.1.1.1.1.1.1.1.2) (HL16.out.here.2)).mono ?_
  rintro e w17 ⟨rfl, hb⟩
  have HL17 := Aside0.mk (HL16.out.step hb)
  clear hb HL16
  go_wp2_with fail
  refine (GA.out _ (HL17.out.here.1.1.1.1.1.1.1.1.1.1.1.1.1.2)).mono ?_
  rintro e w18 ⟨Am5, cm5, rfl, hI, hb⟩
  have HL18 := Aside0.mk (HL17.out.next hb (lat_Q hI))
  clear hI hb HL17
  go_wp2_with fail
  refine (AL.out _ _ _ _ _ (HL18.out.here.1.1.1.2) (HL18.out.here.2)).mono ?_
  rintro e w19 ⟨rfl, hb⟩
  have HL19 := Aside0.mk (HL18.out.step hb)
  clear hb HL18
  go_wp2_with fail
  refine (c_count (HL19.out.here.1.1.1.1.1.1.1.1.1.1.1.1.1.1.2) C1.out).mono ?_
  rintro e w20 ⟨rfl, hb⟩
  have HL20 := Aside0.mk (HL19.out.step hb)
  clear hb HL19
  go_wp2_with fail
  refine (c_count (HL20.out.here.1.1.1.1.1.1.1.1.1.1.1.1.1.2) C2.out).mono ?_
  rintro e w21 ⟨rfl, hb⟩
  have HL21 := Aside0.mk (HL20.out.step hb)
  clear hb HL20
  go_wp2_with fail
  refine (c_count (HL21.out.here.1.1.1.1.1.2) C3.out).mono ?_
  rintro e w22 ⟨rfl, hb⟩
  have HL22 := Aside0.mk (HL21.out.step hb)
  clear hb HL21
  go_wp2_with fail
  refine (c_count (HL22.out.here.1.1.1.1.2) C4.out).mono ?_
  rintro e w23 ⟨rfl, hb⟩
  have HL23 := Aside0.mk (HL22.out.step hb)
  clear hb HL22
  go_wp2_with fail
  refine (c_count (HL23.out.here.1.1.1.1.1.1.1.1.1.1.1.1.1.1.2) C1.out).mono ?_
  rintro e w24 ⟨rfl, hb⟩
  have HL24 := Aside0.mk (HL23.out.step hb)
  clear hb HL23
  go_wp2_with fail
  refine (c_count (HL24.out.here.1.1.1.1.1.1.1.1.1.1.2) C5.out).mono ?_
  rintro e w25 ⟨rfl, hb⟩
  have HL25 := Aside0.mk (HL24.out.step hb)
  clear hb HL24
  go_wp2_with fail
  refine (c_at i (HL25.out.here.1.1.1.1.1.1.1.1.1.1.1.1.1.1.2) EA.out).mono ?_
  rintro e w26 ⟨rfl, hb⟩
  have HL26 := Aside0.mk (HL25.out.step hb)
  clear hb HL25
  go_wp2_with fail
  refine (c_has p (HL26.out.here.1.1.1.1.1.1.1.1.1.1.1.1.1.1.2) E1.out).mono ?_
  rintro e w27 ⟨rfl, hb⟩
  have HL27 := Aside0.mk (HL26.out.step hb)
  clear hb HL26
  go_wp2_with fail
  refine (c_place p (HL27.out.here.1.1.1.1.1.1.1.1.1.1.1.1.1.1.2) E2.out).mono ?_
  rintro e w28 ⟨rfl, hb⟩
  have HL28 := Aside0.mk (HL27.out.step hb)
  clear hb HL27
  go_wp2_with fail
  refine (c_next p (HL28.out.here.1.1.1.1.1.1.1.1.1.1.1.1.1.1.2) E3.out).mono ?_
  rintro e w29 ⟨rfl, hb⟩
  have HL29 := Aside0.mk (HL28.out.step hb)
  clear hb HL28
  go_wp2_with fail
  go_ret
  exact ⟨rfl, (HL29.out.here.1.1.1.1.1.1.1.1.1.1.1.1.1.1.1)⟩

theorem spanLaws_calls (w : World) (Aa : Option Addr) (ca : Nat) (a : List Sn) (hA : Kd.C k50 w Aa a.length a) (hca : a.length ≤ ca) (_ : Fits a) (la : a.length ≤ 1048576) (Ab : Option Addr) (cb : Nat) (b : List Sn) (hB : Kd.C k50 w Ab b.length b) (hcb : b.length ≤ cb) (_ : Fits b) (lb : b.length ≤ 1048576) (i : Int) (hi0 : (Lit.int .i64 i).wf = true) :
    Calls Try.prog 10 #[.slice Aa a.length ca, .slice Ab b.length cb, .int .i64 i] w (Yes w) := by
  have hi1 : -9223372036854775808 ≤ i ∧ i ≤ 9223372036854775807 := by
    have h := hi0
    unfold Lit.wf at h
    rw [Bool.and_eq_true, decide_eq_true_eq, decide_eq_true_eq] at h
    exact h
  have i1 := isQ_ev (a.map toR) (by rw [List.length_map]; omega)
  have i2 := isQ_ev (b.map toR) (by rw [List.length_map]; omega)
  rw [qrs_toR] at i1 i2
  cases ia : isB (prs a) with
  | false =>
    rw [ia] at i1
    exact laws_one ⟨hA, hca⟩ ⟨hB, hcb⟩ (by omega) (by omega) i1
  | true =>
    rw [ia] at i1
    cases ib : isB (prs b) with
    | false =>
      rw [ib] at i2
      exact laws_two ⟨hA, hca⟩ ⟨hB, hcb⟩ (by omega) (by omega) i1 i2
    | true =>
      rw [ib] at i2
      obtain ⟨ma, la2⟩ := isB_may ia
      obtain ⟨mb, lb2⟩ := isB_may ib
      have ra := (isB_iff.1 ia).1
      have rb := (isB_iff.1 ib).1
      rcases other_ev a (by omega) with ⟨_, X, x1, x2, x3, x4⟩ | ⟨hbad, _⟩
      rotate_left
      · rw [ia] at hbad; cases hbad
      rcases minus_ev a b (by omega) with ⟨_, _, Z, z1, z2, z3, z4⟩ | ⟨hbad, _⟩
      rotate_left
      · rw [ia, ib] at hbad; cases hbad
      rcases other_ev b (by omega) with ⟨_, O, o1, o2, o3, o4⟩ | ⟨hbad, _⟩
      rotate_left
      · rw [ib] at hbad; cases hbad
      rcases cross_ev a b (by omega) with ⟨_, _, V, v1, v2, v3, v4⟩ | ⟨hbad, _⟩
      rotate_left
      · rw [ia, ib] at hbad; cases hbad
      rcases union_ev [a, b] (by simp) (fun l hl => by
        simp only [List.mem_cons, List.not_mem_nil, or_false] at hl
        rcases hl with rfl | rfl <;> assumption) with ⟨_, U, u1, u2, u3, u4⟩ | ⟨hbad, _⟩
      rotate_left
      · have : allIs [a, b] = (isB (prs a) && (isB (prs b) && true)) := rfl
        rw [this, ia, ib] at hbad; cases hbad
      have u5 : U.length ≤ a.length + b.length := by
        have h := u4.2
        simp only [List.map_cons, List.map_nil, List.sum_cons, List.sum_nil] at h
        omega
      have m1 := make_set ia
      by_cases hl : 65536 ≤ a.length + b.length
      · have hX := fitP_len X
        have hO := fitP_len O
        have hy : ∃ r, Ev (fun k => span_Other.f k (fitP X).1) r := by
          rcases other_ev (fitP X).1 (by omega) with ⟨_, r, k, _⟩ | ⟨_, k⟩
          · exact ⟨_, k⟩
          · exact ⟨_, k⟩
        have hw : ∃ r, Ev (fun k => span_Cross.f k a (fitP O).1) r := by
          rcases cross_ev a (fitP O).1 (by omega) with ⟨_, _, r, k, _⟩ | ⟨_, k⟩
          · exact ⟨_, k⟩
          · exact ⟨_, k⟩
        obtain ⟨y, y1⟩ := hy
        obtain ⟨v0, w1⟩ := hw
        exact laws_big ⟨hA, hca⟩ ⟨hB, hcb⟩ (by omega) (by omega) i1 i2 x1 y1 z1 o1 w1 u1 v1 m1 hl
      · rw [fitP_ok (by omega)] at x1 z1 o1 v1 u1
        have iX : isB (prs X) = true := isB_iff.2 ⟨x2, by rw [prs_len]; omega⟩
        have iO : isB (prs O) = true := isB_iff.2 ⟨o2, by rw [prs_len]; omega⟩
        have iU : isB (prs U) = true := isB_iff.2 ⟨u2, by rw [prs_len]; omega⟩
        have iV : isB (prs V) = true := isB_iff.2 ⟨v2, by rw [prs_len]; omega⟩
        rcases other_ev X (by omega) with ⟨_, Y, y1, y2, y3, y4⟩ | ⟨hbad, _⟩
        rotate_left
        · rw [iX] at hbad; cases hbad
        have hY : Y = a := prs_inj (Rise.uniq y2 ra fun p => by
          rw [y3 p, x3 p]
          constructor
          · rintro ⟨k1, k2, k3⟩
            rcases Classical.em (Mem (prs a) p) with k | k
            · exact k
            · exact absurd ⟨k1, k2, k⟩ k3
          · intro k
            have := ra.mem_ge k
            exact ⟨this.1, this.2, fun k' => k'.2.2 k⟩)
        subst hY
        rw [fitP_ok (by omega)] at y1
        rcases cross_ev Y O (by omega) with ⟨_, _, C, c1, c2, c3, c4⟩ | ⟨hbad, _⟩
        rotate_left
        · rw [ia, iO] at hbad; cases hbad
        have hC : C = Z := prs_inj (Rise.uniq c2 z2 fun p => by
          rw [c3 p, z3 p, o3 p]
          constructor
          · rintro ⟨k1, _, _, k3⟩
            exact ⟨k1, k3⟩
          · rintro ⟨k1, k2⟩
            have := ra.mem_ge k1
            exact ⟨k1, this.1, this.2, k2⟩)
        subst hC
        rw [fitP_ok (by omega)] at c1
        have n1 := count_ev Y (by omega)
        have n2 := count_ev b (by omega)
        have n3 := count_ev U (by omega)
        have n4 := count_ev V (by omega)
        have n5 := count_ev X (by omega)
        have n6 := at_ev Y (by omega) i hi1.2
        rw [ia, if_pos rfl] at n1 n6
        rw [ib, if_pos rfl] at n2
        rw [iU, if_pos rfl] at n3
        rw [iV, if_pos rfl] at n4
        rw [iX, if_pos rfl] at n5
        have s1 := count_or ra rb u2 v2 (fun p => by
          rw [u3 p]
          constructor
          · rintro ⟨l, hl, k⟩
            simp only [List.mem_cons, List.not_mem_nil, or_false] at hl
            rcases hl with rfl | rfl
            · exact .inl k
            · exact .inr k
          · rintro (k | k)
            · exact ⟨_, by simp, k⟩
            · exact ⟨b, by simp, k⟩) v3
        have s2 := count_not ra x2 x3
        have s3 := cntP_bd (Int.le_refl _) (by omega) ra
        have S1 : wrap64 (cntP Y + cntP b) = wrap64 (cntP U + cntP V) := by rw [s1]
        have S2 : wrap64 (cntP Y + cntP X) = 1114112 := by rw [s2]; unfold wrap64; omega
        by_cases h0 : i < 0
        · have e : atI Y i = -1 := by unfold atI; rw [if_pos h0]
          exact laws_low ⟨hA, hca⟩ ⟨hB, hcb⟩ (by omega) (by omega) i1 i2 x1 y1 z1 o1 c1 u1 v1 m1 (by omega) (by omega) n1 n2 n3 n4 n5 S1 S2 n6 e h0
        · have e : atI Y i = atP Y i := by unfold atI; rw [if_neg h0]
          rw [e] at n6
          by_cases h1 : i < cntP Y
          · obtain ⟨k1, k2, k3, k4⟩ := at_back ra (by omega) h1
            have f1 := has_evP Y (by omega) (atP Y i)
            have f2 := place_ev Y (by omega) (atP Y i)
            have f3 := next_ev Y (by omega) (atP Y i)
            rw [ia, k2] at f1
            rw [ia, if_pos rfl] at f2 f3
            unfold plcI at f2
            rw [k2, if_pos rfl, k3] at f2
            rw [k4] at f3
            exact laws_in ⟨hA, hca⟩ ⟨hB, hcb⟩ (by omega) (by omega) i1 i2 x1 y1 z1 o1 c1 u1 v1 m1 (by omega) (by omega) n1 n2 n3 n4 n5 S1 S2 n6 (by omega) f1 f2 f3
          · exact laws_out ⟨hA, hca⟩ ⟨hB, hcb⟩ (by omega) (by omega) i1 i2 x1 y1 z1 o1 c1 u1 v1 m1 (by omega) (by omega) n1 n2 n3 n4 n5 S1 S2 n6 (at_far ra (by omega)) h0 (by omega)

end Go.Proofs.Ytkpdccegamcppaa.PSpan
