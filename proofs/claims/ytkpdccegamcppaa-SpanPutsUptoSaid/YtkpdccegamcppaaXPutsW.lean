/- SpanPuts: the law's call. -/
import Derived.Test.YtkpdccegamcppaaXCalls
import Derived.Test.YtkpdccegamcppaaXRow
namespace Go.Proofs.Ytkpdccegamcppaa.PSpan
open Go.RowKit Go.Proofs.YtkpdccegamcppaaW.PrintWords Go.Proofs.YtkpdccegamcppaaW.PrintLast Go.Proofs.YtkpdccegamcppaaW.PrintMore Go.Proofs.Ytkpdccegamcppaa.SpanP
set_option linter.unusedVariables false
set_option linter.unusedSimpArgs false

set_option maxRecDepth 100000 in
set_option maxHeartbeats 1600000 in
theorem puts_all {w : World} {Aa Ab Ac : Option Addr} {ca cb cc : Nat} {a b c : List Sn} (ha : InP Aa ca a w) (hb : InP Ab cb b w) (hc : InP Ac cc c w) (la : a.length ≤ 1048576) (lb : b.length ≤ 1048576) (lc : c.length ≤ 1048576) {x y z o : List Sn} {u f g h : Int} {q1 q2 q3 q4 q5 : List Q} (hu : (u == 70) = false) (EU : Ev (fun k => span_Union.f k [a, b, c]) (x, 0, u)) (EC : Ev (fun k => span_Cross.f k a b) (y, f)) (EM : Ev (fun k => span_Minus.f k a b) (z, g)) (EO : Ev (fun k => span_Other.f k a) (o, h)) (ER : Ev (fun k => posternlaw07_refused.f k [a, b, c]) (0, false)) (ER2 : Ev (fun k => posternlaw07_refused.f k [a, b]) (0, false)) (EP1 : Ev (fun k => posternref07_Put.f k (a.map toR) (b.map toR) 0) q1) (EP2 : Ev (fun k => posternref07_Put.f k q1 (c.map toR) 0) q2) (ET1 : Ev (fun k => posternlaw07_told.f k x u q2) true) (EP3 : Ev (fun k => posternref07_Put.f k (a.map toR) (b.map toR) 1) q3) (ET2 : Ev (fun k => posternlaw07_told.f k y f q3) true) (EP4 : Ev (fun k => posternref07_Put.f k (a.map toR) (b.map toR) 2) q4) (ET3 : Ev (fun k => posternlaw07_told.f k z g q4) true) (EP5 : Ev (fun k => posternref07_Put.f k (a.map toR) [] 3) q5) (ET4 : Ev (fun k => posternlaw07_told.f k o h q5) true) :
    Calls Try.prog 5 #[.slice Aa a.length ca, .slice Ab b.length cb, .slice Ac c.length cc] w (Yes w) := by
  replace la : a.length ≤ 4194304 := by omega
  replace lb : b.length ≤ 4194304 := by omega
  replace lc : c.length ≤ 4194304 := by omega
  have HL0 := Aside0.mk ((((lat_base w).next (Below.refl _ _) (lat_P ha)).next (Below.refl _ _) (lat_P hb)).next (Below.refl _ _) (lat_P hc))
  clear ha hb hc
  replace EU := Aside0.mk EU
  replace EC := Aside0.mk EC
  replace EM := Aside0.mk EM
  replace EO := Aside0.mk EO
  replace ER := Aside0.mk ER
  replace ER2 := Aside0.mk ER2
  replace EP1 := Aside0.mk EP1
  replace EP2 := Aside0.mk EP2
  replace ET1 := Aside0.mk ET1
  replace EP3 := Aside0.mk EP3
  replace ET2 := Aside0.mk ET2
  replace EP4 := Aside0.mk EP4
  replace ET3 := Aside0.mk ET3
  replace EP5 := Aside0.mk EP5
  replace ET4 := Aside0.mk ET4
  have GA := Aside0.mk (fun (W : World) (h : InP Aa ca a W) => c_given h la)
  have GB := Aside0.mk (fun (W : World) (h : InP Ab cb b W) => c_given h lb)
  have GC := Aside0.mk (fun (W : World) (h : InP Ac cc c W) => c_given h lc)
  generalize hpe : a.map toR = p at *
  generalize hqe : b.map toR = q at *
  generalize hre : c.map toR = r at *
  clear hpe hqe hre
  go_enter Try.func5, Try.ntmps5
  go_wp2_with fail
  refine (c_union3 (HL0.out.here.1.1.2) (HL0.out.here.1.2) (HL0.out.here.2) EU.out).mono ?_
  rintro e w1 ⟨Ax, cx, rfl, hI, hb⟩
  have HL1 := Aside0.mk (HL0.out.next hb (lat_P hI))
  clear hI hb HL0
  go_wp2_with fail
  refine (c_cross (HL1.out.here.1.1.1.2) (HL1.out.here.1.1.2) EC.out).mono ?_
  rintro e w2 ⟨Ay, cy, rfl, hI, hb⟩
  have HL2 := Aside0.mk (HL1.out.next hb (lat_P hI))
  clear hI hb HL1
  go_wp2_with fail
  refine (c_minus (HL2.out.here.1.1.1.1.2) (HL2.out.here.1.1.1.2) EM.out).mono ?_
  rintro e w3 ⟨Az, cz, rfl, hI, hb⟩
  have HL3 := Aside0.mk (HL2.out.next hb (lat_P hI))
  clear hI hb HL2
  go_wp2_with fail
  refine (c_other (HL3.out.here.1.1.1.1.1.2) EO.out).mono ?_
  rintro e w4 ⟨Ao, co, rfl, hI, hb⟩
  have HL4 := Aside0.mk (HL3.out.next hb (lat_P hI))
  clear hI hb HL3
  go_wp2_with fail
  refine (c_union0 _).mono ?_
  rintro e w5 ⟨An, cn, rfl, hI, hb⟩
  have HL5 := Aside0.mk (HL4.out.next hb (lat_P hI))
  clear hI hb HL4
  go_wp2_with fail
  refine (c_awake _).mono ?_
  rintro e w6 ⟨rfl, hb⟩
  have HL6 := Aside0.mk (HL5.out.step hb)
  clear hb HL5
  go_wp2_with fail
  refine (c_refused3 (HL6.out.here.1.1.1.1.1.1.1.2) (HL6.out.here.1.1.1.1.1.1.2) (HL6.out.here.1.1.1.1.1.2) ER.out).mono ?_
  rintro e w7 ⟨rfl, hb⟩
  have HL7 := Aside0.mk (HL6.out.step hb)
  clear hb HL6
  go_wp2_with fail
  refine (GA.out _ (HL7.out.here.1.1.1.1.1.1.1.2)).mono ?_
  rintro e w8 ⟨Ap, cp, rfl, hI, hb⟩
  have HL8 := Aside0.mk (HL7.out.next hb (lat_Q hI))
  clear hI hb HL7
  go_wp2_with fail
  refine (GB.out _ (HL8.out.here.1.1.1.1.1.1.1.2)).mono ?_
  rintro e w9 ⟨Aq, cq, rfl, hI, hb⟩
  have HL9 := Aside0.mk (HL8.out.next hb (lat_Q hI))
  clear hI hb HL8
  go_wp2_with fail
  refine (GC.out _ (HL9.out.here.1.1.1.1.1.1.1.2)).mono ?_
  rintro e w10 ⟨Ar, cr, rfl, hI, hb⟩
  have HL10 := Aside0.mk (HL9.out.next hb (lat_Q hI))
  clear hI hb HL9
  go_wp2_with fail
  refine (c_put 0 (HL10.out.here.1.1.2) (HL10.out.here.1.2) EP1.out).mono ?_
  rintro e w11 ⟨Aq1, cq1, rfl, hI, hb⟩
  have HL11 := Aside0.mk (HL10.out.next hb (lat_Q hI))
  clear hI hb HL10
  go_wp2_with fail
  refine (c_put 0 (HL11.out.here.2) (HL11.out.here.1.2) EP2.out).mono ?_
  rintro e w12 ⟨Aq2, cq2, rfl, hI, hb⟩
  have HL12 := Aside0.mk (HL11.out.next hb (lat_Q hI))
  clear hI hb HL11
  go_wp2_with fail
  refine (c_told (HL12.out.here.1.1.1.1.1.1.1.1.1.2) (HL12.out.here.2) ET1.out).mono ?_
  rintro e w13 ⟨rfl, hb⟩
  have HL13 := Aside0.mk (HL12.out.step hb)
  clear hb HL12
  go_wp2_with fail
  refine (c_refused2 (HL13.out.here.1.1.1.1.1.1.1.1.1.1.1.1.2) (HL13.out.here.1.1.1.1.1.1.1.1.1.1.1.2) ER2.out).mono ?_
  rintro e w14 ⟨rfl, hb⟩
  have HL14 := Aside0.mk (HL13.out.step hb)
  clear hb HL13
  go_wp2_with fail
  refine (c_put 1 (HL14.out.here.1.1.1.1.2) (HL14.out.here.1.1.1.2) EP3.out).mono ?_
  rintro e w15 ⟨Aq3, cq3, rfl, hI, hb⟩
  have HL15 := Aside0.mk (HL14.out.next hb (lat_Q hI))
  clear hI hb HL14
  go_wp2_with fail
  refine (c_told (HL15.out.here.1.1.1.1.1.1.1.1.1.2) (HL15.out.here.2) ET2.out).mono ?_
  rintro e w16 ⟨rfl, hb⟩
  have HL16 := Aside0.mk (HL15.out.step hb)
  clear hb HL15
  go_wp2_with fail
  refine (c_put 2 (HL16.out.here.1.1.1.1.1.2) (HL16.out.here.1.1.1.1.2) EP4.out).mono ?_
  rintro e w17 ⟨Aq4, cq4, rfl, hI, hb⟩
  have HL17 := Aside0.mk (HL16.out.next hb (lat_Q hI))
  clear hI hb HL16
  go_wp2_with fail
  refine (c_told (HL17.out.here.1.1.1.1.1.1.1.1.1.2) (HL17.out.here.2) ET3.out).mono ?_
  rintro e w18 ⟨rfl, hb⟩
  have HL18 := Aside0.mk (HL17.out.step hb)
  clear hb HL17
  go_wp2_with fail
  refine (c_put_lit 3 (HL18.out.here.1.1.1.1.1.1.2) EP5.out).mono ?_
  rintro e w19 ⟨Aq5, cq5, rfl, hI, hb⟩
  have HL19 := Aside0.mk (HL18.out.next hb (lat_Q hI))
  clear hI hb HL18
  go_wp2_with fail
  refine (c_told (HL19.out.here.1.1.1.1.1.1.1.1.1.2) (HL19.out.here.2) ET4.out).mono ?_
  rintro e w20 ⟨rfl, hb⟩
  have HL20 := Aside0.mk (HL19.out.step hb)
  clear hb HL19
  go_wp2_with fail
  go_ret
  exact ⟨rfl, (HL20.out.here.1.1.1.1.1.1.1.1.1.1.1.1.1.1.1.1)⟩
set_option maxRecDepth 100000 in
set_option maxHeartbeats 1600000 in
theorem puts_two {w : World} {Aa Ab Ac : Option Addr} {ca cb cc : Nat} {a b c : List Sn} (ha : InP Aa ca a w) (hb : InP Ab cb b w) (hc : InP Ac cc c w) (la : a.length ≤ 1048576) (lb : b.length ≤ 1048576) (lc : c.length ≤ 1048576) {y z o : List Sn} {n f g h : Int} {q3 q4 q5 : List Q} (EU : Ev (fun k => span_Union.f k [a, b, c]) ([], n, 70)) (EC : Ev (fun k => span_Cross.f k a b) (y, f)) (EM : Ev (fun k => span_Minus.f k a b) (z, g)) (EO : Ev (fun k => span_Other.f k a) (o, h)) (ER : Ev (fun k => posternlaw07_refused.f k [a, b, c]) (n, true)) (ER2 : Ev (fun k => posternlaw07_refused.f k [a, b]) (0, false)) (EP3 : Ev (fun k => posternref07_Put.f k (a.map toR) (b.map toR) 1) q3) (ET2 : Ev (fun k => posternlaw07_told.f k y f q3) true) (EP4 : Ev (fun k => posternref07_Put.f k (a.map toR) (b.map toR) 2) q4) (ET3 : Ev (fun k => posternlaw07_told.f k z g q4) true) (EP5 : Ev (fun k => posternref07_Put.f k (a.map toR) [] 3) q5) (ET4 : Ev (fun k => posternlaw07_told.f k o h q5) true) :
    Calls Try.prog 5 #[.slice Aa a.length ca, .slice Ab b.length cb, .slice Ac c.length cc] w (Yes w) := by
  replace la : a.length ≤ 4194304 := by omega
  replace lb : b.length ≤ 4194304 := by omega
  replace lc : c.length ≤ 4194304 := by omega
  have HL0 := Aside0.mk ((((lat_base w).next (Below.refl _ _) (lat_P ha)).next (Below.refl _ _) (lat_P hb)).next (Below.refl _ _) (lat_P hc))
  clear ha hb hc
  replace EU := Aside0.mk EU
  replace EC := Aside0.mk EC
  replace EM := Aside0.mk EM
  replace EO := Aside0.mk EO
  replace ER := Aside0.mk ER
  replace ER2 := Aside0.mk ER2
  replace EP3 := Aside0.mk EP3
  replace ET2 := Aside0.mk ET2
  replace EP4 := Aside0.mk EP4
  replace ET3 := Aside0.mk ET3
  replace EP5 := Aside0.mk EP5
  replace ET4 := Aside0.mk ET4
  have GA := Aside0.mk (fun (W : World) (h : InP Aa ca a W) => c_given h la)
  have GB := Aside0.mk (fun (W : World) (h : InP Ab cb b W) => c_given h lb)
  have GC := Aside0.mk (fun (W : World) (h : InP Ac cc c W) => c_given h lc)
  generalize hpe : a.map toR = p at *
  generalize hqe : b.map toR = q at *
  generalize hre : c.map toR = r at *
  clear hpe hqe hre
  go_enter Try.func5, Try.ntmps5
  go_wp2_with fail
  refine (c_union3 (HL0.out.here.1.1.2) (HL0.out.here.1.2) (HL0.out.here.2) EU.out).mono ?_
  rintro e w1 ⟨Ax, cx, rfl, hI, hb⟩
  have HL1 := Aside0.mk (HL0.out.next hb (lat_P hI))
  clear hI hb HL0
  go_wp2_with fail
  refine (c_cross (HL1.out.here.1.1.1.2) (HL1.out.here.1.1.2) EC.out).mono ?_
  rintro e w2 ⟨Ay, cy, rfl, hI, hb⟩
  have HL2 := Aside0.mk (HL1.out.next hb (lat_P hI))
  clear hI hb HL1
  go_wp2_with fail
  refine (c_minus (HL2.out.here.1.1.1.1.2) (HL2.out.here.1.1.1.2) EM.out).mono ?_
  rintro e w3 ⟨Az, cz, rfl, hI, hb⟩
  have HL3 := Aside0.mk (HL2.out.next hb (lat_P hI))
  clear hI hb HL2
  go_wp2_with fail
  refine (c_other (HL3.out.here.1.1.1.1.1.2) EO.out).mono ?_
  rintro e w4 ⟨Ao, co, rfl, hI, hb⟩
  have HL4 := Aside0.mk (HL3.out.next hb (lat_P hI))
  clear hI hb HL3
  go_wp2_with fail
  refine (c_union0 _).mono ?_
  rintro e w5 ⟨An, cn, rfl, hI, hb⟩
  have HL5 := Aside0.mk (HL4.out.next hb (lat_P hI))
  clear hI hb HL4
  go_wp2_with fail
  refine (c_awake _).mono ?_
  rintro e w6 ⟨rfl, hb⟩
  have HL6 := Aside0.mk (HL5.out.step hb)
  clear hb HL5
  go_wp2_with fail
  refine (c_refused3 (HL6.out.here.1.1.1.1.1.1.1.2) (HL6.out.here.1.1.1.1.1.1.2) (HL6.out.here.1.1.1.1.1.2) ER.out).mono ?_
  rintro e w7 ⟨rfl, hb⟩
  have HL7 := Aside0.mk (HL6.out.step hb)
  clear hb HL6
  go_wp2_with fail
  refine (GA.out _ (HL7.out.here.1.1.1.1.1.1.1.2)).mono ?_
  rintro e w8 ⟨Ap, cp, rfl, hI, hb⟩
  have HL8 := Aside0.mk (HL7.out.next hb (lat_Q hI))
  clear hI hb HL7
  go_wp2_with fail
  refine (GB.out _ (HL8.out.here.1.1.1.1.1.1.1.2)).mono ?_
  rintro e w9 ⟨Aq, cq, rfl, hI, hb⟩
  have HL9 := Aside0.mk (HL8.out.next hb (lat_Q hI))
  clear hI hb HL8
  go_wp2_with fail
  refine (GC.out _ (HL9.out.here.1.1.1.1.1.1.1.2)).mono ?_
  rintro e w10 ⟨Ar, cr, rfl, hI, hb⟩
  have HL10 := Aside0.mk (HL9.out.next hb (lat_Q hI))
  clear hI hb HL9
  go_wp2_with fail
  refine (c_refused2 (HL10.out.here.1.1.1.1.1.1.1.1.1.1.2) (HL10.out.here.1.1.1.1.1.1.1.1.1.2) ER2.out).mono ?_
  rintro e w11 ⟨rfl, hb⟩
  have HL11 := Aside0.mk (HL10.out.step hb)
  clear hb HL10
  go_wp2_with fail
  refine (c_put 1 (HL11.out.here.1.1.2) (HL11.out.here.1.2) EP3.out).mono ?_
  rintro e w12 ⟨Aq3, cq3, rfl, hI, hb⟩
  have HL12 := Aside0.mk (HL11.out.next hb (lat_Q hI))
  clear hI hb HL11
  go_wp2_with fail
  refine (c_told (HL12.out.here.1.1.1.1.1.1.1.2) (HL12.out.here.2) ET2.out).mono ?_
  rintro e w13 ⟨rfl, hb⟩
  have HL13 := Aside0.mk (HL12.out.step hb)
  clear hb HL12
  go_wp2_with fail
  refine (c_put 2 (HL13.out.here.1.1.1.2) (HL13.out.here.1.1.2) EP4.out).mono ?_
  rintro e w14 ⟨Aq4, cq4, rfl, hI, hb⟩
  have HL14 := Aside0.mk (HL13.out.next hb (lat_Q hI))
  clear hI hb HL13
  go_wp2_with fail
  refine (c_told (HL14.out.here.1.1.1.1.1.1.1.2) (HL14.out.here.2) ET3.out).mono ?_
  rintro e w15 ⟨rfl, hb⟩
  have HL15 := Aside0.mk (HL14.out.step hb)
  clear hb HL14
  go_wp2_with fail
  refine (c_put_lit 3 (HL15.out.here.1.1.1.1.2) EP5.out).mono ?_
  rintro e w16 ⟨Aq5, cq5, rfl, hI, hb⟩
  have HL16 := Aside0.mk (HL15.out.next hb (lat_Q hI))
  clear hI hb HL15
  go_wp2_with fail
  refine (c_told (HL16.out.here.1.1.1.1.1.1.1.2) (HL16.out.here.2) ET4.out).mono ?_
  rintro e w17 ⟨rfl, hb⟩
  have HL17 := Aside0.mk (HL16.out.step hb)
  clear hb HL16
  go_wp2_with fail
  go_ret
  exact ⟨rfl, (HL17.out.here.1.1.1.1.1.1.1.1.1.1.1.1.1.1)⟩
set_option maxRecDepth 100000 in
set_option maxHeartbeats 1600000 in
theorem puts_none {w : World} {Aa Ab Ac : Option Addr} {ca cb cc : Nat} {a b c : List Sn} (ha : InP Aa ca a w) (hb : InP Ab cb b w) (hc : InP Ac cc c w) (la : a.length ≤ 1048576) (lb : b.length ≤ 1048576) (lc : c.length ≤ 1048576) {o : List Sn} {n n2 h : Int} (EU : Ev (fun k => span_Union.f k [a, b, c]) ([], n, 70)) (EC : Ev (fun k => span_Cross.f k a b) ([], 70)) (EM : Ev (fun k => span_Minus.f k a b) ([], 70)) (EO : Ev (fun k => span_Other.f k a) (o, h)) (ER : Ev (fun k => posternlaw07_refused.f k [a, b, c]) (n, true)) (ER2 : Ev (fun k => posternlaw07_refused.f k [a, b]) (n2, true)) :
    Calls Try.prog 5 #[.slice Aa a.length ca, .slice Ab b.length cb, .slice Ac c.length cc] w (Yes w) := by
  replace la : a.length ≤ 4194304 := by omega
  replace lb : b.length ≤ 4194304 := by omega
  replace lc : c.length ≤ 4194304 := by omega
  have HL0 := Aside0.mk ((((lat_base w).next (Below.refl _ _) (lat_P ha)).next (Below.refl _ _) (lat_P hb)).next (Below.refl _ _) (lat_P hc))
  clear ha hb hc
  replace EU := Aside0.mk EU
  replace EC := Aside0.mk EC
  replace EM := Aside0.mk EM
  replace EO := Aside0.mk EO
  replace ER := Aside0.mk ER
  replace ER2 := Aside0.mk ER2
  have GA := Aside0.mk (fun (W : World) (h : InP Aa ca a W) => c_given h la)
  have GB := Aside0.mk (fun (W : World) (h : InP Ab cb b W) => c_given h lb)
  have GC := Aside0.mk (fun (W : World) (h : InP Ac cc c W) => c_given h lc)
  generalize hpe : a.map toR = p at *
  generalize hqe : b.map toR = q at *
  generalize hre : c.map toR = r at *
  clear hpe hqe hre
  go_enter Try.func5, Try.ntmps5
  go_wp2_with fail
  refine (c_union3 (HL0.out.here.1.1.2) (HL0.out.here.1.2) (HL0.out.here.2) EU.out).mono ?_
  rintro e w1 ⟨Ax, cx, rfl, hI, hb⟩
  have HL1 := Aside0.mk (HL0.out.next hb (lat_P hI))
  clear hI hb HL0
  go_wp2_with fail
  refine (c_cross (HL1.out.here.1.1.1.2) (HL1.out.here.1.1.2) EC.out).mono ?_
  rintro e w2 ⟨Ay, cy, rfl, hI, hb⟩
  have HL2 := Aside0.mk (HL1.out.next hb (lat_P hI))
  clear hI hb HL1
  go_wp2_with fail
  refine (c_minus (HL2.out.here.1.1.1.1.2) (HL2.out.here.1.1.1.2) EM.out).mono ?_
  rintro e w3 ⟨Az, cz, rfl, hI, hb⟩
  have HL3 := Aside0.mk (HL2.out.next hb (lat_P hI))
  clear hI hb HL2
  go_wp2_with fail
  refine (c_other (HL3.out.here.1.1.1.1.1.2) EO.out).mono ?_
  rintro e w4 ⟨Ao, co, rfl, hI, hb⟩
  have HL4 := Aside0.mk (HL3.out.next hb (lat_P hI))
  clear hI hb HL3
  go_wp2_with fail
  refine (c_union0 _).mono ?_
  rintro e w5 ⟨An, cn, rfl, hI, hb⟩
  have HL5 := Aside0.mk (HL4.out.next hb (lat_P hI))
  clear hI hb HL4
  go_wp2_with fail
  refine (c_awake _).mono ?_
  rintro e w6 ⟨rfl, hb⟩
  have HL6 := Aside0.mk (HL5.out.step hb)
  clear hb HL5
  go_wp2_with fail
  refine (c_refused3 (HL6.out.here.1.1.1.1.1.1.1.2) (HL6.out.here.1.1.1.1.1.1.2) (HL6.out.here.1.1.1.1.1.2) ER.out).mono ?_
  rintro e w7 ⟨rfl, hb⟩
  have HL7 := Aside0.mk (HL6.out.step hb)
  clear hb HL6
  go_wp2_with fail
  refine (GA.out _ (HL7.out.here.1.1.1.1.1.1.1.2)).mono ?_
  rintro e w8 ⟨Ap, cp, rfl, hI, hb⟩
  have HL8 := Aside0.mk (HL7.out.next hb (lat_Q hI))
  clear hI hb HL7
  go_wp2_with fail
  refine (GB.out _ (HL8.out.here.1.1.1.1.1.1.1.2)).mono ?_
  rintro e w9 ⟨Aq, cq, rfl, hI, hb⟩
  have HL9 := Aside0.mk (HL8.out.next hb (lat_Q hI))
  clear hI hb HL8
  go_wp2_with fail
  refine (GC.out _ (HL9.out.here.1.1.1.1.1.1.1.2)).mono ?_
  rintro e w10 ⟨Ar, cr, rfl, hI, hb⟩
  have HL10 := Aside0.mk (HL9.out.next hb (lat_Q hI))
  clear hI hb HL9
  go_wp2_with fail
  refine (c_refused2 (HL10.out.here.1.1.1.1.1.1.1.1.1.1.2) (HL10.out.here.1.1.1.1.1.1.1.1.1.2) ER2.out).mono ?_
  rintro e w11 ⟨rfl, hb⟩
  have HL11 := Aside0.mk (HL10.out.step hb)
  clear hb HL10
  go_wp2_with fail
  go_ret
  exact ⟨rfl, (HL11.out.here.1.1.1.1.1.1.1.1.1.1.1)⟩

theorem spanPuts_calls (w : World) (Aa : Option Addr) (ca : Nat) (a : List Sn) (hA : Kd.C k50 w Aa a.length a) (hca : a.length ≤ ca) (_ : Fits a) (la : a.length ≤ 1048576) (Ab : Option Addr) (cb : Nat) (b : List Sn) (hB : Kd.C k50 w Ab b.length b) (hcb : b.length ≤ cb) (_ : Fits b) (lb : b.length ≤ 1048576) (Ac : Option Addr) (cc : Nat) (c : List Sn) (hC : Kd.C k50 w Ac c.length c) (hcc : c.length ≤ cc) (_ : Fits c) (lc : c.length ≤ 1048576) :
    Calls Try.prog 5 #[.slice Aa a.length ca, .slice Ab b.length cb, .slice Ac c.length cc] w (Yes w) := by
  have h3 : ∀ l ∈ [a, b, c], l.length ≤ 1048576 := fun l hl => by
    simp only [List.mem_cons, List.not_mem_nil, or_false] at hl
    rcases hl with rfl | rfl | rfl <;> assumption
  have h2 : ∀ l ∈ [a, b], l.length ≤ 1048576 := fun l hl => by
    simp only [List.mem_cons, List.not_mem_nil, or_false] at hl
    rcases hl with rfl | rfl <;> assumption
  have r3 := refused_ev [a, b, c] (by simp) h3
  have r2 := refused_ev [a, b] (by simp) h2
  have e3 : allIs [a, b, c] = (isB (prs a) && (isB (prs b) && (isB (prs c) && true))) := rfl
  have e2 : allIs [a, b] = (isB (prs a) && (isB (prs b) && true)) := rfl
  have hO : ∃ o h, Ev (fun k => span_Other.f k a) (o, h) := by
    rcases other_ev a (by omega) with ⟨_, r, k, _⟩ | ⟨_, k⟩
    · exact ⟨_, _, k⟩
    · exact ⟨_, _, k⟩
  rcases cross_ev a b (by omega) with ⟨ia, ib, rC, c1, c2, c3, c4⟩ | ⟨hbad, c1⟩
  · rcases minus_ev a b (by omega) with ⟨_, _, rM, m1, m2, m3, m4⟩ | ⟨hbad, _⟩
    rotate_left
    · rw [ia, ib] at hbad; cases hbad
    rcases other_ev a (by omega) with ⟨_, rO, o1, o2, o3, o4⟩ | ⟨hbad, _⟩
    rotate_left
    · rw [ia] at hbad; cases hbad
    obtain ⟨ma, la2⟩ := isB_may ia
    obtain ⟨mb, lb2⟩ := isB_may ib
    rw [e2, ia, ib] at r2
    have p3 := put_is 1 (by omega) (by omega) ma mb c2 (fun p _ _ => (c3 p).trans (putW_iff _ _ p).2.1.symm)
    have p4 := put_is 2 (by omega) (by omega) ma mb m2 (fun p _ _ => (m3 p).trans (putW_iff _ _ p).2.2.1.symm)
    have p5 := put_is (b := []) 3 (by omega) (by simp) ma rfl o2 (fun p h0 h1 => by rw [o3 p, (putW_iff _ _ p).2.2.2]; exact ⟨fun k => ⟨k.2.2, mem_nil p⟩, fun k => ⟨h0, h1, k.1⟩⟩)
    have t2 := told_ev rC (fitP rC).1 (fitP rC).2 rfl (by omega)
    have t3 := told_ev rM (fitP rM).1 (fitP rM).2 rfl (by omega)
    have t4 := told_ev rO (fitP rO).1 (fitP rO).2 rfl (by omega)
    rcases union_ev [a, b, c] (by simp) h3 with ⟨i3, rU, u1, u2, u3, u4⟩ | ⟨i3, u1⟩
    · rw [i3] at r3
      have ic : isB (prs c) = true := by rw [e3, ia, ib] at i3; simpa using i3
      obtain ⟨mc, lc2⟩ := isB_may ic
      -- either of the first two, then either of that and the third
      rcases union_ev [a, b] (by simp) h2 with ⟨_, rV, v1, v2, v3, v4⟩ | ⟨hbad, _⟩
      rotate_left
      · rw [e2, ia, ib] at hbad; cases hbad
      have p1 := put_is 0 (by omega) (by omega) ma mb v2 (fun p _ _ => by
        rw [v3 p, (putW_iff _ _ p).1]
        constructor
        · rintro ⟨l, hl, k⟩
          simp only [List.mem_cons, List.not_mem_nil, or_false] at hl
          rcases hl with rfl | rfl
          · exact .inl k
          · exact .inr k
        · rintro (k | k)
          · exact ⟨a, by simp, k⟩
          · exact ⟨b, by simp, k⟩)
      have mv : mayL rV = true := List.all_eq_true.2 fun x hx => by
        have := v2.ge (pr x) (List.mem_map_of_mem hx)
        exact decide_eq_true ⟨by omega, this.2.1, this.2.2⟩
      have lv : rV.length ≤ 2097152 := by have h' : rV.length ≤ 65536 * [a, b].length := v4; simp only [List.length_cons, List.length_nil] at h'; omega
      have lu : rU.length ≤ 16777216 := by have h' : rU.length ≤ 65536 * [a, b, c].length := u4; simp only [List.length_cons, List.length_nil] at h'; omega
      have p2 := put_is 0 lv (by omega) mv mc u2 (fun p _ _ => by
        rw [u3 p, (putW_iff _ _ p).1, v3 p]
        constructor
        · rintro ⟨l, hl, k⟩
          simp only [List.mem_cons, List.not_mem_nil, or_false] at hl
          rcases hl with rfl | rfl | rfl
          · exact .inl ⟨_, by simp, k⟩
          · exact .inl ⟨_, by simp, k⟩
          · exact .inr k
        · rintro (⟨l, hl, k⟩ | k)
          · simp only [List.mem_cons, List.not_mem_nil, or_false] at hl
            rcases hl with rfl | rfl
            · exact ⟨_, by simp, k⟩
            · exact ⟨_, by simp, k⟩
          · exact ⟨c, by simp, k⟩)
      have t1 := told_ev rU (fitP rU).1 (fitP rU).2 rfl lu
      have hu : ((fitP rU).2 == 70) = false := by unfold fitP; split <;> rfl
      exact puts_all ⟨hA, hca⟩ ⟨hB, hcb⟩ ⟨hC, hcc⟩ la lb lc hu u1 c1 m1 o1 r3 r2 p1 p2 t1 p3 t2 p4 t3 p5 t4
    · rw [i3] at r3
      exact puts_two ⟨hA, hca⟩ ⟨hB, hcb⟩ ⟨hC, hcc⟩ la lb lc u1 c1 m1 o1 r3 r2 p3 t2 p4 t3 p5 t4
  · rcases minus_ev a b (by omega) with ⟨ia, ib, _⟩ | ⟨_, m1⟩
    · rw [ia, ib] at hbad; cases hbad
    obtain ⟨o, h, o1⟩ := hO
    have i2 : allIs [a, b] = false := by rw [e2, Bool.and_true]; exact hbad
    have i3 : allIs [a, b, c] = false := by rw [e3, ← Bool.and_assoc, hbad]; rfl
    rcases union_ev [a, b, c] (by simp) h3 with ⟨k, _⟩ | ⟨_, u1⟩
    · rw [i3] at k; cases k
    rw [i3] at r3
    rw [i2] at r2
    exact puts_none ⟨hA, hca⟩ ⟨hB, hcb⟩ ⟨hC, hcc⟩ la lb lc u1 c1 m1 o1 r3 r2

end Go.Proofs.Ytkpdccegamcppaa.PSpan
