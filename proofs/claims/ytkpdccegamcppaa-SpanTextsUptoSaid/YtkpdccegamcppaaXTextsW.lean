/- SpanTexts: the law's call. -/
import Derived.Test.YtkpdccegamcppaaXCallT
namespace Go.Proofs.Ytkpdccegamcppaa.PSpan
open Go.RowKit Go.Proofs.YtkpdccegamcppaaW.PrintWords Go.Proofs.YtkpdccegamcppaaW.PrintLast Go.Proofs.YtkpdccegamcppaaW.PrintMore Go.Proofs.Ytkpdccegamcppaa.SpanP
set_option linter.unusedVariables false
set_option linter.unusedSimpArgs false

set_option maxRecDepth 100000 in
set_option maxHeartbeats 1600000 in
theorem texts_no {w : World} {Aa : Option Addr} {ca : Nat} {a : List Sn} {s : ByteArray} (ha : InP Aa ca a w) (la : a.length ≤ 4194304) {t : ByteArray} {b : List Sn} {i f : Int} (hf : wrap64 f = f) (ET : Ev (fun k => span_Text.f k a) (⟨#[]⟩, 70)) (EP : Ev (fun k => span_Parse.f k s) (b, i, f)) (EQ : Ev (fun k => posternref07_Parse.f k s) (b.map toR, i, f)) (EL : Ev (fun k => posternlaw07_alike.f k b (b.map toR)) true) (EI : Ev (fun k => posternref07_Is.f k (a.map toR)) false) :
    Calls Try.prog 8 #[.slice Aa a.length ca, .string s] w (Yes w) := by
  have HL0 := Aside0.mk ((lat_base w).next (Below.refl _ _) (lat_P ha))
  clear ha
  replace ET := Aside0.mk ET
  replace EP := Aside0.mk EP
  replace EQ := Aside0.mk EQ
  replace EL := Aside0.mk EL
  replace EI := Aside0.mk EI
  have GA := Aside0.mk (fun (W : World) (h : InP Aa ca a W) => c_given h la)
  generalize hme : a.map toR = m at *
  clear hme la
  generalize hbe : b.map toR = c at *
  clear hbe
  go_enter Try.func8, Try.ntmps8
  go_wp2_with fail
  refine (c_text (HL0.out.here.2) ET.out).mono ?_
  rintro e w1 ⟨rfl, hb⟩
  have HL1 := Aside0.mk (HL0.out.step hb)
  clear hb HL0
  go_wp2_with fail
  refine (c_parse _ EP.out).mono ?_
  rintro e w2 ⟨Ab, cb, rfl, hI, hb⟩
  have HL2 := Aside0.mk (HL1.out.next hb (lat_P hI))
  clear hI hb HL1
  go_wp2_with fail
  refine (c_parseQ _ EQ.out).mono ?_
  rintro e w3 ⟨Ac, cc, rfl, hI, hb⟩
  have HL3 := Aside0.mk (HL2.out.next hb (lat_Q hI))
  clear hI hb HL2
  go_wp2_with fail
  refine (c_awake _).mono ?_
  rintro e w4 ⟨rfl, hb⟩
  have HL4 := Aside0.mk (HL3.out.step hb)
  clear hb HL3
  go_wp2_with fail
  refine (c_alike (HL4.out.here.1.2) (HL4.out.here.2) EL.out).mono ?_
  rintro e w5 ⟨rfl, hb⟩
  have HL5 := Aside0.mk (HL4.out.step hb)
  clear hb HL4
  go_wp2_with fail
  refine (GA.out _ (HL5.out.here.1.1.2)).mono ?_
  rintro e w6 ⟨Am, cm, rfl, hI, hb⟩
  have HL6 := Aside0.mk (HL5.out.next hb (lat_Q hI))
  clear hI hb HL5
  go_wp2_with fail
  refine (c_isQ (HL6.out.here.2) EI.out).mono ?_
  rintro e w7 ⟨rfl, hb⟩
  have HL7 := Aside0.mk (HL6.out.step hb)
  clear hb HL6
  go_wp2_with fail
  go_ret
  exact ⟨rfl, (HL7.out.here.1.1.1.1)⟩
set_option maxRecDepth 100000 in
set_option maxHeartbeats 1600000 in
theorem texts_yes {w : World} {Aa : Option Addr} {ca : Nat} {a : List Sn} {s : ByteArray} (ha : InP Aa ca a w) (la : a.length ≤ 4194304) {t : ByteArray} {b : List Sn} {i f : Int} (hf : wrap64 f = f) (ET : Ev (fun k => span_Text.f k a) (t, 0)) (EP : Ev (fun k => span_Parse.f k s) (b, i, f)) (EQ : Ev (fun k => posternref07_Parse.f k s) (b.map toR, i, f)) (EL : Ev (fun k => posternlaw07_alike.f k b (b.map toR)) true) (EI : Ev (fun k => posternref07_Is.f k (a.map toR)) true) (EX : Ev (fun k => posternref07_Text.f k (a.map toR)) t) :
    Calls Try.prog 8 #[.slice Aa a.length ca, .string s] w (Yes w) := by
  have HL0 := Aside0.mk ((lat_base w).next (Below.refl _ _) (lat_P ha))
  clear ha
  replace ET := Aside0.mk ET
  replace EP := Aside0.mk EP
  replace EQ := Aside0.mk EQ
  replace EL := Aside0.mk EL
  replace EI := Aside0.mk EI
  replace EX := Aside0.mk EX
  have GA := Aside0.mk (fun (W : World) (h : InP Aa ca a W) => c_given h la)
  generalize hme : a.map toR = m at *
  clear hme la
  generalize hbe : b.map toR = c at *
  clear hbe
  go_enter Try.func8, Try.ntmps8
  go_wp2_with fail
  refine (c_text (HL0.out.here.2) ET.out).mono ?_
  rintro e w1 ⟨rfl, hb⟩
  have HL1 := Aside0.mk (HL0.out.step hb)
  clear hb HL0
  go_wp2_with fail
  refine (c_parse _ EP.out).mono ?_
  rintro e w2 ⟨Ab, cb, rfl, hI, hb⟩
  have HL2 := Aside0.mk (HL1.out.next hb (lat_P hI))
  clear hI hb HL1
  go_wp2_with fail
  refine (c_parseQ _ EQ.out).mono ?_
  rintro e w3 ⟨Ac, cc, rfl, hI, hb⟩
  have HL3 := Aside0.mk (HL2.out.next hb (lat_Q hI))
  clear hI hb HL2
  go_wp2_with fail
  refine (c_awake _).mono ?_
  rintro e w4 ⟨rfl, hb⟩
  have HL4 := Aside0.mk (HL3.out.step hb)
  clear hb HL3
  go_wp2_with fail
  refine (c_alike (HL4.out.here.1.2) (HL4.out.here.2) EL.out).mono ?_
  rintro e w5 ⟨rfl, hb⟩
  have HL5 := Aside0.mk (HL4.out.step hb)
  clear hb HL4
  go_wp2_with fail
  refine (GA.out _ (HL5.out.here.1.1.2)).mono ?_
  rintro e w6 ⟨Am, cm, rfl, hI, hb⟩
  have HL6 := Aside0.mk (HL5.out.next hb (lat_Q hI))
  clear hI hb HL5
  go_wp2_with fail
  refine (c_isQ (HL6.out.here.2) EI.out).mono ?_
  rintro e w7 ⟨rfl, hb⟩
  have HL7 := Aside0.mk (HL6.out.step hb)
  clear hb HL6
  go_wp2_with fail
  refine (GA.out _ (HL7.out.here.1.1.1.2)).mono ?_
  rintro e w8 ⟨Am2, cm2, rfl, hI, hb⟩
  have HL8 := Aside0.mk (HL7.out.next hb (lat_Q hI))
  clear hI hb HL7
  go_wp2_with fail
  refine (c_textQ (HL8.out.here.2) EX.out).mono ?_
  rintro e w9 ⟨rfl, hb⟩
  have HL9 := Aside0.mk (HL8.out.step hb)
  clear hb HL8
  go_wp2_with fail
  go_ret
  exact ⟨rfl, (HL9.out.here.1.1.1.1.1)⟩
theorem spanTexts_calls (w : World) (Aa : Option Addr) (ca : Nat) (a : List Sn) (hA : Kd.C k50 w Aa a.length a) (hca : a.length ≤ ca) (_ : Fits a) (la : a.length ≤ 1048576) (s : ByteArray) (ls : s.data.toList.length ≤ 1048576) :
    Calls Try.prog 8 #[.slice Aa a.length ca, .string s] w (Yes w) := by
  have hs : s.size ≤ 1048576 := by rw [data_length] at ls; exact ls
  have i1 := isQ_ev (a.map toR) (by rw [List.length_map]; omega)
  rw [qrs_toR] at i1
  have e1 := text_ev a la
  have e2 := parse_ev s (by omega)
  have e3 := parseQ_ev s (by omega)
  have h4 := parse_err s
  have h5 := parse_len s
  generalize parse s = pp at e2 e3 h4 h5
  obtain ⟨b, i, f⟩ := pp
  have e4 := alike_ev b (b.map toR) (by simp only at h5; omega)
  rw [decide_eq_true rfl] at e4
  have hf : wrap64 f = f := by simp only at h4; unfold wrap64; omega
  cases ia : isB (prs a) with
  | false =>
    rw [ia] at i1 e1
    rw [if_neg (by decide)] at e1
    exact texts_no (t := ⟨#[]⟩) ⟨hA, hca⟩ (by omega) hf e1 e2 e3 e4 i1
  | true =>
    have e5 := textQ_ev a la ia
    rw [ia] at i1 e1
    rw [if_pos rfl] at e1
    exact texts_yes ⟨hA, hca⟩ (by omega) hf e1 e2 e3 e4 i1 e5

end Go.Proofs.Ytkpdccegamcppaa.PSpan
