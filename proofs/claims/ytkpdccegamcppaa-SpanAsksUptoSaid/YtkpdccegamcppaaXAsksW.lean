/- SpanAsks: the law's call. -/
import Derived.Test.YtkpdccegamcppaaXAskC
import Derived.Test.YtkpdccegamcppaaXRow
namespace Go.Proofs.Ytkpdccegamcppaa.PSpan
open Go.RowKit Go.Proofs.YtkpdccegamcppaaW.PrintWords Go.Proofs.YtkpdccegamcppaaW.PrintLast Go.Proofs.YtkpdccegamcppaaW.PrintMore Go.Proofs.Ytkpdccegamcppaa.SpanP
set_option linter.unusedVariables false
set_option linter.unusedSimpArgs false

set_option maxRecDepth 100000 in
set_option maxHeartbeats 1600000 in
theorem asks_none {w : World} {Aa Ab : Option Addr} {ca cb : Nat} {a b : List Sn} {p : Int} (ha : InP Aa ca a w) (hb : InP Ab cb b w) (la : a.length ≤ 4194304) (lb : b.length ≤ 4194304) (hp : wrap64 p = p) (EI : Ev (fun k => posternref07_Is.f k (a.map toR)) false) (EH : Ev (fun k => span_Has.f k a p) false) (EC : Ev (fun k => span_Count.f k a) 0) (EA : Ev (fun k => span_At.f k a 0) (-1)) (EP : Ev (fun k => span_Place.f k a p) (-1)) (EN : Ev (fun k => span_Next.f k a p) (-1)) (EW : Ev (fun k => span_Within.f k a b) false) (EV : Ev (fun k => span_Within.f k b a) false) :
    Calls Try.prog 7 #[.slice Aa a.length ca, .slice Ab b.length cb, .int .i32 p] w (Yes w) := by
  have HL0 := Aside0.mk (((lat_base w).next (Below.refl _ _) (lat_P ha)).next (Below.refl _ _) (lat_P hb))
  clear ha hb
  replace EI := Aside0.mk EI
  replace EH := Aside0.mk EH
  replace EC := Aside0.mk EC
  replace EA := Aside0.mk EA
  replace EP := Aside0.mk EP
  replace EN := Aside0.mk EN
  replace EW := Aside0.mk EW
  replace EV := Aside0.mk EV
  have GA := Aside0.mk (fun (W : World) (h : InP Aa ca a W) => c_given h la)
  have GB := Aside0.mk (fun (W : World) (h : InP Ab cb b W) => c_given h lb)
  generalize hme : a.map toR = m at *
  generalize hne : b.map toR = n at *
  clear hme hne la lb
  go_enter Try.func7, Try.ntmps7
  go_wp2_with fail
  refine (GA.out _ (HL0.out.here.1.2)).mono ?_
  rintro e w1 ⟨Am, cm, rfl, hI, hb⟩
  have HL1 := Aside0.mk (HL0.out.next hb (lat_Q hI))
  clear hI hb HL0
  go_wp2_with fail
  refine (GB.out _ (HL1.out.here.1.2)).mono ?_
  rintro e w2 ⟨An, cn, rfl, hI, hb⟩
  have HL2 := Aside0.mk (HL1.out.next hb (lat_Q hI))
  clear hI hb HL1
  go_wp2_with fail
  refine (c_isQ (HL2.out.here.1.2) EI.out).mono ?_
  rintro e w3 ⟨rfl, hb⟩
  have HL3 := Aside0.mk (HL2.out.step hb)
  clear hb HL2
  go_wp2_with fail
  refine (c_awake _).mono ?_
  rintro e w4 ⟨rfl, hb⟩
  have HL4 := Aside0.mk (HL3.out.step hb)
  clear hb HL3
  go_wp2_with fail
  refine (c_has p (HL4.out.here.1.1.1.2) EH.out).mono ?_
  rintro e w5 ⟨rfl, hb⟩
  have HL5 := Aside0.mk (HL4.out.step hb)
  clear hb HL4
  go_wp2_with fail
  refine (c_count (HL5.out.here.1.1.1.2) EC.out).mono ?_
  rintro e w6 ⟨rfl, hb⟩
  have HL6 := Aside0.mk (HL5.out.step hb)
  clear hb HL5
  go_wp2_with fail
  refine (c_at 0 (HL6.out.here.1.1.1.2) EA.out).mono ?_
  rintro e w7 ⟨rfl, hb⟩
  have HL7 := Aside0.mk (HL6.out.step hb)
  clear hb HL6
  go_wp2_with fail
  refine (c_place p (HL7.out.here.1.1.1.2) EP.out).mono ?_
  rintro e w8 ⟨rfl, hb⟩
  have HL8 := Aside0.mk (HL7.out.step hb)
  clear hb HL7
  go_wp2_with fail
  refine (c_next p (HL8.out.here.1.1.1.2) EN.out).mono ?_
  rintro e w9 ⟨rfl, hb⟩
  have HL9 := Aside0.mk (HL8.out.step hb)
  clear hb HL8
  go_wp2_with fail
  refine (c_within (HL9.out.here.1.1.1.2) (HL9.out.here.1.1.2) EW.out).mono ?_
  rintro e w10 ⟨rfl, hb⟩
  have HL10 := Aside0.mk (HL9.out.step hb)
  clear hb HL9
  go_wp2_with fail
  refine (c_within (HL10.out.here.1.1.2) (HL10.out.here.1.1.1.2) EV.out).mono ?_
  rintro e w11 ⟨rfl, hb⟩
  have HL11 := Aside0.mk (HL10.out.step hb)
  clear hb HL10
  go_wp2_with fail
  go_ret
  exact ⟨rfl, (HL11.out.here.1.1.1.1)⟩
set_option maxRecDepth 100000 in
set_option maxHeartbeats 1600000 in
theorem asks_two {w : World} {Aa Ab : Option Addr} {ca cb : Nat} {a b : List Sn} {p : Int} (ha : InP Aa ca a w) (hb : InP Ab cb b w) (la : a.length ≤ 4194304) (lb : b.length ≤ 4194304) (hp : wrap64 p = p) {h : Bool} {c x y z : Int} (EI : Ev (fun k => posternref07_Is.f k (a.map toR)) true) (EH : Ev (fun k => span_Has.f k a p) h) (EH2 : Ev (fun k => posternref07_Has.f k (a.map toR) p) h) (EC : Ev (fun k => span_Count.f k a) c) (EC2 : Ev (fun k => posternref07_Count.f k (a.map toR)) c) (EA : Ev (fun k => span_At.f k a p) x) (EA2 : Ev (fun k => posternref07_At.f k (a.map toR) p) x) (EP : Ev (fun k => span_Place.f k a p) y) (EP2 : Ev (fun k => posternref07_Place.f k (a.map toR) p) y) (EN : Ev (fun k => span_Next.f k a p) z) (EN2 : Ev (fun k => posternref07_Next.f k (a.map toR) p) z) (EW : Ev (fun k => span_Within.f k a b) false) (EJ : Ev (fun k => posternref07_Is.f k (b.map toR)) false) :
    Calls Try.prog 7 #[.slice Aa a.length ca, .slice Ab b.length cb, .int .i32 p] w (Yes w) := by
  have HL0 := Aside0.mk (((lat_base w).next (Below.refl _ _) (lat_P ha)).next (Below.refl _ _) (lat_P hb))
  clear ha hb
  replace EI := Aside0.mk EI
  replace EH := Aside0.mk EH
  replace EH2 := Aside0.mk EH2
  replace EC := Aside0.mk EC
  replace EC2 := Aside0.mk EC2
  replace EA := Aside0.mk EA
  replace EA2 := Aside0.mk EA2
  replace EP := Aside0.mk EP
  replace EP2 := Aside0.mk EP2
  replace EN := Aside0.mk EN
  replace EN2 := Aside0.mk EN2
  replace EW := Aside0.mk EW
  replace EJ := Aside0.mk EJ
  have GA := Aside0.mk (fun (W : World) (h : InP Aa ca a W) => c_given h la)
  have GB := Aside0.mk (fun (W : World) (h : InP Ab cb b W) => c_given h lb)
  generalize hme : a.map toR = m at *
  generalize hne : b.map toR = n at *
  clear hme hne la lb
  go_enter Try.func7, Try.ntmps7
  go_wp2_with fail
  refine (GA.out _ (HL0.out.here.1.2)).mono ?_
  rintro e w1 ⟨Am, cm, rfl, hI, hb⟩
  have HL1 := Aside0.mk (HL0.out.next hb (lat_Q hI))
  clear hI hb HL0
  go_wp2_with fail
  refine (GB.out _ (HL1.out.here.1.2)).mono ?_
  rintro e w2 ⟨An, cn, rfl, hI, hb⟩
  have HL2 := Aside0.mk (HL1.out.next hb (lat_Q hI))
  clear hI hb HL1
  go_wp2_with fail
  refine (c_isQ (HL2.out.here.1.2) EI.out).mono ?_
  rintro e w3 ⟨rfl, hb⟩
  have HL3 := Aside0.mk (HL2.out.step hb)
  clear hb HL2
  go_wp2_with fail
  refine (c_awake _).mono ?_
  rintro e w4 ⟨rfl, hb⟩
  have HL4 := Aside0.mk (HL3.out.step hb)
  clear hb HL3
  go_wp2_with fail
  refine (c_has p (HL4.out.here.1.1.1.2) EH.out).mono ?_
  rintro e w5 ⟨rfl, hb⟩
  have HL5 := Aside0.mk (HL4.out.step hb)
  clear hb HL4
  go_wp2_with fail
  refine (c_hasQ p (HL5.out.here.1.2) EH2.out).mono ?_
  rintro e w6 ⟨rfl, hb⟩
  have HL6 := Aside0.mk (HL5.out.step hb)
  clear hb HL5
  go_wp2_with fail
  refine (c_count (HL6.out.here.1.1.1.2) EC.out).mono ?_
  rintro e w7 ⟨rfl, hb⟩
  have HL7 := Aside0.mk (HL6.out.step hb)
  clear hb HL6
  go_wp2_with fail
  refine (c_countQ (HL7.out.here.1.2) EC2.out).mono ?_
  rintro e w8 ⟨rfl, hb⟩
  have HL8 := Aside0.mk (HL7.out.step hb)
  clear hb HL7
  go_wp2_with fail
  refine (c_at p (HL8.out.here.1.1.1.2) EA.out).mono ?_
  rintro e w9 ⟨rfl, hb⟩
  have HL9 := Aside0.mk (HL8.out.step hb)
  clear hb HL8
  go_wp2_with fail
  refine (c_atQ p (HL9.out.here.1.2) EA2.out).mono ?_
  rintro e w10 ⟨rfl, hb⟩
  have HL10 := Aside0.mk (HL9.out.step hb)
  clear hb HL9
  go_wp2_with fail
  refine (c_place p (HL10.out.here.1.1.1.2) EP.out).mono ?_
  rintro e w11 ⟨rfl, hb⟩
  have HL11 := Aside0.mk (HL10.out.step hb)
  clear hb HL10
  go_wp2_with fail
  refine (c_placeQ p (HL11.out.here.1.2) EP2.out).mono ?_
  rintro e w12 ⟨rfl, hb⟩
  have HL12 := Aside0.mk (HL11.out.step hb)
  clear hb HL11
  go_wp2_with fail
  refine (c_next p (HL12.out.here.1.1.1.2) EN.out).mono ?_
  rintro e w13 ⟨rfl, hb⟩
  have HL13 := Aside0.mk (HL12.out.step hb)
  clear hb HL12
  go_wp2_with fail
  refine (c_nextQ p (HL13.out.here.1.2) EN2.out).mono ?_
  rintro e w14 ⟨rfl, hb⟩
  have HL14 := Aside0.mk (HL13.out.step hb)
  clear hb HL13
  go_wp2_with fail
  refine (c_within (HL14.out.here.1.1.1.2) (HL14.out.here.1.1.2) EW.out).mono ?_
  rintro e w15 ⟨rfl, hb⟩
  have HL15 := Aside0.mk (HL14.out.step hb)
  clear hb HL14
  go_wp2_with fail
  refine (c_isQ (HL15.out.here.2) EJ.out).mono ?_
  rintro e w16 ⟨rfl, hb⟩
  have HL16 := Aside0.mk (HL15.out.step hb)
  clear hb HL15
  go_wp2_with fail
  go_ret
  exact ⟨rfl, (HL16.out.here.1.1.1.1)⟩
set_option maxRecDepth 100000 in
set_option maxHeartbeats 1600000 in
theorem asks_yes {w : World} {Aa Ab : Option Addr} {ca cb : Nat} {a b : List Sn} {p : Int} (ha : InP Aa ca a w) (hb : InP Ab cb b w) (la : a.length ≤ 4194304) (lb : b.length ≤ 4194304) (hp : wrap64 p = p) {h : Bool} {c x y z : Int} (EI : Ev (fun k => posternref07_Is.f k (a.map toR)) true) (EH : Ev (fun k => span_Has.f k a p) h) (EH2 : Ev (fun k => posternref07_Has.f k (a.map toR) p) h) (EC : Ev (fun k => span_Count.f k a) c) (EC2 : Ev (fun k => posternref07_Count.f k (a.map toR)) c) (EA : Ev (fun k => span_At.f k a p) x) (EA2 : Ev (fun k => posternref07_At.f k (a.map toR) p) x) (EP : Ev (fun k => span_Place.f k a p) y) (EP2 : Ev (fun k => posternref07_Place.f k (a.map toR) p) y) (EN : Ev (fun k => span_Next.f k a p) z) (EN2 : Ev (fun k => posternref07_Next.f k (a.map toR) p) z) {q : List Q} (hq : q.length = 0) (EW : Ev (fun k => span_Within.f k a b) true) (EJ : Ev (fun k => posternref07_Is.f k (b.map toR)) true) (EU : Ev (fun k => posternref07_Put.f k (a.map toR) (b.map toR) 2) q) :
    Calls Try.prog 7 #[.slice Aa a.length ca, .slice Ab b.length cb, .int .i32 p] w (Yes w) := by
  have HL0 := Aside0.mk (((lat_base w).next (Below.refl _ _) (lat_P ha)).next (Below.refl _ _) (lat_P hb))
  clear ha hb
  replace EI := Aside0.mk EI
  replace EH := Aside0.mk EH
  replace EH2 := Aside0.mk EH2
  replace EC := Aside0.mk EC
  replace EC2 := Aside0.mk EC2
  replace EA := Aside0.mk EA
  replace EA2 := Aside0.mk EA2
  replace EP := Aside0.mk EP
  replace EP2 := Aside0.mk EP2
  replace EN := Aside0.mk EN
  replace EN2 := Aside0.mk EN2
  replace EW := Aside0.mk EW
  replace EJ := Aside0.mk EJ
  replace EU := Aside0.mk EU
  have GA := Aside0.mk (fun (W : World) (h : InP Aa ca a W) => c_given h la)
  have GB := Aside0.mk (fun (W : World) (h : InP Ab cb b W) => c_given h lb)
  generalize hme : a.map toR = m at *
  generalize hne : b.map toR = n at *
  clear hme hne la lb
  go_enter Try.func7, Try.ntmps7
  go_wp2_with fail
  refine (GA.out _ (HL0.out.here.1.2)).mono ?_
  rintro e w1 ⟨Am, cm, rfl, hI, hb⟩
  have HL1 := Aside0.mk (HL0.out.next hb (lat_Q hI))
  clear hI hb HL0
  go_wp2_with fail
  refine (GB.out _ (HL1.out.here.1.2)).mono ?_
  rintro e w2 ⟨An, cn, rfl, hI, hb⟩
  have HL2 := Aside0.mk (HL1.out.next hb (lat_Q hI))
  clear hI hb HL1
  go_wp2_with fail
  refine (c_isQ (HL2.out.here.1.2) EI.out).mono ?_
  rintro e w3 ⟨rfl, hb⟩
  have HL3 := Aside0.mk (HL2.out.step hb)
  clear hb HL2
  go_wp2_with fail
  refine (c_awake _).mono ?_
  rintro e w4 ⟨rfl, hb⟩
  have HL4 := Aside0.mk (HL3.out.step hb)
  clear hb HL3
  go_wp2_with fail
  refine (c_has p (HL4.out.here.1.1.1.2) EH.out).mono ?_
  rintro e w5 ⟨rfl, hb⟩
  have HL5 := Aside0.mk (HL4.out.step hb)
  clear hb HL4
  go_wp2_with fail
  refine (c_hasQ p (HL5.out.here.1.2) EH2.out).mono ?_
  rintro e w6 ⟨rfl, hb⟩
  have HL6 := Aside0.mk (HL5.out.step hb)
  clear hb HL5
  go_wp2_with fail
  refine (c_count (HL6.out.here.1.1.1.2) EC.out).mono ?_
  rintro e w7 ⟨rfl, hb⟩
  have HL7 := Aside0.mk (HL6.out.step hb)
  clear hb HL6
  go_wp2_with fail
  refine (c_countQ (HL7.out.here.1.2) EC2.out).mono ?_
  rintro e w8 ⟨rfl, hb⟩
  have HL8 := Aside0.mk (HL7.out.step hb)
  clear hb HL7
  go_wp2_with fail
  refine (c_at p (HL8.out.here.1.1.1.2) EA.out).mono ?_
  rintro e w9 ⟨rfl, hb⟩
  have HL9 := Aside0.mk (HL8.out.step hb)
  clear hb HL8
  go_wp2_with fail
  refine (c_atQ p (HL9.out.here.1.2) EA2.out).mono ?_
  rintro e w10 ⟨rfl, hb⟩
  have HL10 := Aside0.mk (HL9.out.step hb)
  clear hb HL9
  go_wp2_with fail
  refine (c_place p (HL10.out.here.1.1.1.2) EP.out).mono ?_
  rintro e w11 ⟨rfl, hb⟩
  have HL11 := Aside0.mk (HL10.out.step hb)
  clear hb HL10
  go_wp2_with fail
  refine (c_placeQ p (HL11.out.here.1.2) EP2.out).mono ?_
  rintro e w12 ⟨rfl, hb⟩
  have HL12 := Aside0.mk (HL11.out.step hb)
  clear hb HL11
  go_wp2_with fail
  refine (c_next p (HL12.out.here.1.1.1.2) EN.out).mono ?_
  rintro e w13 ⟨rfl, hb⟩
  have HL13 := Aside0.mk (HL12.out.step hb)
  clear hb HL12
  go_wp2_with fail
  refine (c_nextQ p (HL13.out.here.1.2) EN2.out).mono ?_
  rintro e w14 ⟨rfl, hb⟩
  have HL14 := Aside0.mk (HL13.out.step hb)
  clear hb HL13
  go_wp2_with fail
  refine (c_within (HL14.out.here.1.1.1.2) (HL14.out.here.1.1.2) EW.out).mono ?_
  rintro e w15 ⟨rfl, hb⟩
  have HL15 := Aside0.mk (HL14.out.step hb)
  clear hb HL14
  go_wp2_with fail
  refine (c_isQ (HL15.out.here.2) EJ.out).mono ?_
  rintro e w16 ⟨rfl, hb⟩
  have HL16 := Aside0.mk (HL15.out.step hb)
  clear hb HL15
  go_wp2_with fail
  refine (c_put 2 (HL16.out.here.1.2) (HL16.out.here.2) EU.out).mono ?_
  rintro e w17 ⟨Aq, cq, rfl, hI, hb⟩
  have HL17 := Aside0.mk (HL16.out.next hb (lat_Q hI))
  clear hI hb HL16
  go_wp2_with fail
  go_ret
  exact ⟨rfl, (HL17.out.here.1.1.1.1.1)⟩
set_option maxRecDepth 100000 in
set_option maxHeartbeats 1600000 in
theorem asks_no {w : World} {Aa Ab : Option Addr} {ca cb : Nat} {a b : List Sn} {p : Int} (ha : InP Aa ca a w) (hb : InP Ab cb b w) (la : a.length ≤ 4194304) (lb : b.length ≤ 4194304) (hp : wrap64 p = p) {h : Bool} {c x y z : Int} (EI : Ev (fun k => posternref07_Is.f k (a.map toR)) true) (EH : Ev (fun k => span_Has.f k a p) h) (EH2 : Ev (fun k => posternref07_Has.f k (a.map toR) p) h) (EC : Ev (fun k => span_Count.f k a) c) (EC2 : Ev (fun k => posternref07_Count.f k (a.map toR)) c) (EA : Ev (fun k => span_At.f k a p) x) (EA2 : Ev (fun k => posternref07_At.f k (a.map toR) p) x) (EP : Ev (fun k => span_Place.f k a p) y) (EP2 : Ev (fun k => posternref07_Place.f k (a.map toR) p) y) (EN : Ev (fun k => span_Next.f k a p) z) (EN2 : Ev (fun k => posternref07_Next.f k (a.map toR) p) z) {s : Q} {q : List Q} (EW : Ev (fun k => span_Within.f k a b) false) (EJ : Ev (fun k => posternref07_Is.f k (b.map toR)) true) (EU : Ev (fun k => posternref07_Put.f k (a.map toR) (b.map toR) 2) (s :: q)) :
    Calls Try.prog 7 #[.slice Aa a.length ca, .slice Ab b.length cb, .int .i32 p] w (Yes w) := by
  have HL0 := Aside0.mk (((lat_base w).next (Below.refl _ _) (lat_P ha)).next (Below.refl _ _) (lat_P hb))
  clear ha hb
  replace EI := Aside0.mk EI
  replace EH := Aside0.mk EH
  replace EH2 := Aside0.mk EH2
  replace EC := Aside0.mk EC
  replace EC2 := Aside0.mk EC2
  replace EA := Aside0.mk EA
  replace EA2 := Aside0.mk EA2
  replace EP := Aside0.mk EP
  replace EP2 := Aside0.mk EP2
  replace EN := Aside0.mk EN
  replace EN2 := Aside0.mk EN2
  replace EW := Aside0.mk EW
  replace EJ := Aside0.mk EJ
  replace EU := Aside0.mk EU
  have GA := Aside0.mk (fun (W : World) (h : InP Aa ca a W) => c_given h la)
  have GB := Aside0.mk (fun (W : World) (h : InP Ab cb b W) => c_given h lb)
  generalize hme : a.map toR = m at *
  generalize hne : b.map toR = n at *
  clear hme hne la lb
  go_enter Try.func7, Try.ntmps7
  go_wp2_with fail
  refine (GA.out _ (HL0.out.here.1.2)).mono ?_
  rintro e w1 ⟨Am, cm, rfl, hI, hb⟩
  have HL1 := Aside0.mk (HL0.out.next hb (lat_Q hI))
  clear hI hb HL0
  go_wp2_with fail
  refine (GB.out _ (HL1.out.here.1.2)).mono ?_
  rintro e w2 ⟨An, cn, rfl, hI, hb⟩
  have HL2 := Aside0.mk (HL1.out.next hb (lat_Q hI))
  clear hI hb HL1
  go_wp2_with fail
  refine (c_isQ (HL2.out.here.1.2) EI.out).mono ?_
  rintro e w3 ⟨rfl, hb⟩
  have HL3 := Aside0.mk (HL2.out.step hb)
  clear hb HL2
  go_wp2_with fail
  refine (c_awake _).mono ?_
  rintro e w4 ⟨rfl, hb⟩
  have HL4 := Aside0.mk (HL3.out.step hb)
  clear hb HL3
  go_wp2_with fail
  refine (c_has p (HL4.out.here.1.1.1.2) EH.out).mono ?_
  rintro e w5 ⟨rfl, hb⟩
  have HL5 := Aside0.mk (HL4.out.step hb)
  clear hb HL4
  go_wp2_with fail
  refine (c_hasQ p (HL5.out.here.1.2) EH2.out).mono ?_
  rintro e w6 ⟨rfl, hb⟩
  have HL6 := Aside0.mk (HL5.out.step hb)
  clear hb HL5
  go_wp2_with fail
  refine (c_count (HL6.out.here.1.1.1.2) EC.out).mono ?_
  rintro e w7 ⟨rfl, hb⟩
  have HL7 := Aside0.mk (HL6.out.step hb)
  clear hb HL6
  go_wp2_with fail
  refine (c_countQ (HL7.out.here.1.2) EC2.out).mono ?_
  rintro e w8 ⟨rfl, hb⟩
  have HL8 := Aside0.mk (HL7.out.step hb)
  clear hb HL7
  go_wp2_with fail
  refine (c_at p (HL8.out.here.1.1.1.2) EA.out).mono ?_
  rintro e w9 ⟨rfl, hb⟩
  have HL9 := Aside0.mk (HL8.out.step hb)
  clear hb HL8
  go_wp2_with fail
  refine (c_atQ p (HL9.out.here.1.2) EA2.out).mono ?_
  rintro e w10 ⟨rfl, hb⟩
  have HL10 := Aside0.mk (HL9.out.step hb)
  clear hb HL9
  go_wp2_with fail
  refine (c_place p (HL10.out.here.1.1.1.2) EP.out).mono ?_
  rintro e w11 ⟨rfl, hb⟩
  have HL11 := Aside0.mk (HL10.out.step hb)
  clear hb HL10
  go_wp2_with fail
  refine (c_placeQ p (HL11.out.here.1.2) EP2.out).mono ?_
  rintro e w12 ⟨rfl, hb⟩
  have HL12 := Aside0.mk (HL11.out.step hb)
  clear hb HL11
  go_wp2_with fail
  refine (c_next p (HL12.out.here.1.1.1.2) EN.out).mono ?_
  rintro e w13 ⟨rfl, hb⟩
  have HL13 := Aside0.mk (HL12.out.step hb)
  clear hb HL12
  go_wp2_with fail
  refine (c_nextQ p (HL13.out.here.1.2) EN2.out).mono ?_
  rintro e w14 ⟨rfl, hb⟩
  have HL14 := Aside0.mk (HL13.out.step hb)
  clear hb HL13
  go_wp2_with fail
  refine (c_within (HL14.out.here.1.1.1.2) (HL14.out.here.1.1.2) EW.out).mono ?_
  rintro e w15 ⟨rfl, hb⟩
  have HL15 := Aside0.mk (HL14.out.step hb)
  clear hb HL14
  go_wp2_with fail
  refine (c_isQ (HL15.out.here.2) EJ.out).mono ?_
  rintro e w16 ⟨rfl, hb⟩
  have HL16 := Aside0.mk (HL15.out.step hb)
  clear hb HL15
  go_wp2_with fail
  refine (c_put 2 (HL16.out.here.1.2) (HL16.out.here.2) EU.out).mono ?_
  rintro e w17 ⟨Aq, cq, rfl, hI, hb⟩
  have HL17 := Aside0.mk (HL16.out.next hb (lat_Q hI))
  clear hI hb HL16
  go_wp2_with fail
  go_ret
  exact ⟨rfl, (HL17.out.here.1.1.1.1.1)⟩

theorem spanAsks_calls (w : World) (Aa : Option Addr) (ca : Nat) (a : List Sn) (hA : Kd.C k50 w Aa a.length a) (hca : a.length ≤ ca) (_ : Fits a) (la : a.length ≤ 1048576) (Ab : Option Addr) (cb : Nat) (b : List Sn) (hB : Kd.C k50 w Ab b.length b) (hcb : b.length ≤ cb) (_ : Fits b) (lb : b.length ≤ 1048576) (p : Int) (hp0 : (Lit.int .i32 p).wf = true) :
    Calls Try.prog 7 #[.slice Aa a.length ca, .slice Ab b.length cb, .int .i32 p] w (Yes w) := by
  have hp1 : -2147483648 ≤ p ∧ p ≤ 2147483647 := by
    have h := hp0
    unfold Lit.wf at h
    rw [Bool.and_eq_true, decide_eq_true_eq, decide_eq_true_eq] at h
    exact h
  have hp : wrap64 p = p := by unfold wrap64; omega
  have i1 := isQ_ev (a.map toR) (by rw [List.length_map]; omega)
  have i2 := isQ_ev (b.map toR) (by rw [List.length_map]; omega)
  rw [qrs_toR] at i1 i2
  have e1 := has_evP a (by omega) p
  have e2 := count_ev a (by omega)
  have e3 := at_ev a (by omega) p (by omega)
  have e4 := place_ev a (by omega) p
  have e5 := next_ev a (by omega) p
  have e3z := at_ev a (by omega) 0 (by omega)
  cases ia : isB (prs a) with
  | false =>
    rw [ia] at i1 e1 e2 e3 e4 e5 e3z
    have e6 : Ev (fun k => span_Within.f k a b) false := by
      rcases within_ev a b (by omega) (by omega) with ⟨h, _⟩ | ⟨_, h⟩
      · rw [ia] at h; cases h
      · exact h
    have e7 : Ev (fun k => span_Within.f k b a) false := by
      rcases within_ev b a (by omega) (by omega) with ⟨_, h, _⟩ | ⟨_, h⟩
      · rw [ia] at h; cases h
      · exact h
    exact asks_none ⟨hA, hca⟩ ⟨hB, hcb⟩ (by omega) (by omega) hp i1 e1 e2 e3z e4 e5 e6 e7
  | true =>
    have f1 := has_ev (a.map toR) (by rw [List.length_map]; omega) p
    rw [qrs_toR] at f1
    have f2 := countQ_ev a (by omega) ia
    have f3 := atQ_ev a (by omega) ia p (by omega)
    have f4 := placeQ_ev a (by omega) ia p
    have f5 := nextQ_ev a (by omega) p
    rw [ia, Bool.true_and] at e1
    rw [ia, if_pos rfl] at e2 e3 e4 e5
    rw [ia] at i1
    rcases within_ev a b (by omega) (by omega) with ⟨_, ib, r, k1, k2⟩ | ⟨hb, k1⟩
    · rw [ib] at i2
      have mq : ∀ {l : List Sn}, mayL l = true → MayQ (l.map toR) := fun h x hx => by
        obtain ⟨y, hy, rfl⟩ := List.mem_map.1 hx
        exact mayL_of h y hy
      obtain ⟨q, u, q2, q3, _⟩ := put_f (a.map toR) (b.map toR) 2 (by rw [List.length_map]; omega) (by rw [List.length_map]; omega) (mq (isB_may ia).1) (mq (isB_may ib).1)
      simp only [qrs_toR, (putW_iff _ _ _).2.2.1] at q3
      cases q with
      | nil =>
        have hr : r = true := k2.2 (fun p h => by
          rcases Classical.em (Mem (prs b) p) with h' | h'
          · exact h'
          · have := (isB_iff.1 ia).1.mem_ge h
            exact absurd ((q3 p).2 ⟨this.1, this.2, h, h'⟩) (mem_nil p))
        subst hr
        exact asks_yes ⟨hA, hca⟩ ⟨hB, hcb⟩ (by omega) (by omega) hp i1 e1 f1 e2 f2 e3 f3 e4 f4 e5 f5 (q := []) rfl k1 i2 u
      | cons x q =>
        have hr : r = false := by
          cases r with
          | false => rfl
          | true =>
            have hx : (0 : Int) ≤ x.f0 ∧ x.f0 ≤ x.f1 ∧ x.f1 ≤ 1114111 ∧ Rise (x.f1 + 2) (qrs q) := q2
            have hm : Mem (qrs (x :: q)) x.f0 := ⟨qr x, List.mem_cons_self, Int.le_refl _, hx.2.1⟩
            have := (q3 _).1 hm
            exact absurd (k2.1 rfl _ this.2.2.1) this.2.2.2
        subst hr
        exact asks_no ⟨hA, hca⟩ ⟨hB, hcb⟩ (by omega) (by omega) hp i1 e1 f1 e2 f2 e3 f3 e4 f4 e5 f5 k1 i2 u
    · rw [ia, Bool.true_and] at hb
      rw [hb] at i2
      exact asks_two ⟨hA, hca⟩ ⟨hB, hcb⟩ (by omega) (by omega) hp i1 e1 f1 e2 f2 e3 f3 e4 f4 e5 f5 k1 i2

end Go.Proofs.Ytkpdccegamcppaa.PSpan
