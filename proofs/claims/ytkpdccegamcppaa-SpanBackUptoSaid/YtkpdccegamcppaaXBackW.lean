/- SpanBack: the law's call. -/
import Derived.Test.YtkpdccegamcppaaXCallT
namespace Go.Proofs.Ytkpdccegamcppaa.PSpan
open Go.RowKit Go.Proofs.YtkpdccegamcppaaW.PrintWords Go.Proofs.YtkpdccegamcppaaW.PrintLast Go.Proofs.YtkpdccegamcppaaW.PrintMore Go.Proofs.Ytkpdccegamcppaa.SpanP
set_option linter.unusedVariables false
set_option linter.unusedSimpArgs false

set_option maxRecDepth 100000 in
set_option maxHeartbeats 1600000 in
theorem back_nn {w : World} {Aa : Option Addr} {ca : Nat} {a : List Sn} {s : ByteArray} (ha : InP Aa ca a w) (la : a.length ≤ 4194304) {t : ByteArray} {b d : List Sn} {i f : Int} {q : List Q} (EI : Ev (fun k => posternref07_Is.f k (a.map toR)) false) (hf0 : (f == 0) = false) (hf : wrap64 f = f) (EP : Ev (fun k => span_Parse.f k s) (b, i, f)) (EQ : Ev (fun k => posternref07_Parse.f k s) (q, i, f)) :
    Calls Try.prog 9 #[.slice Aa a.length ca, .string s] w (Yes w) := by
  have HL0 := Aside0.mk ((lat_base w).next (Below.refl _ _) (lat_P ha))
  clear ha
  replace EI := Aside0.mk EI
  replace EP := Aside0.mk EP
  replace EQ := Aside0.mk EQ
  have GA := Aside0.mk (fun (W : World) (h : InP Aa ca a W) => c_given h la)
  generalize hme : a.map toR = m at *
  clear hme la
  go_enter Try.func9, Try.ntmps9
  go_wp2_with fail
  refine (GA.out _ (HL0.out.here.2)).mono ?_
  rintro e w1 ⟨Am, cm, rfl, hI, hb⟩
  have HL1 := Aside0.mk (HL0.out.next hb (lat_Q hI))
  clear hI hb HL0
  go_wp2_with fail
  refine (c_isQ (HL1.out.here.2) EI.out).mono ?_
  rintro e w2 ⟨rfl, hb⟩
  have HL2 := Aside0.mk (HL1.out.step hb)
  clear hb HL1
  go_wp2_with fail
  refine (c_parse _ EP.out).mono ?_
  rintro e w3 ⟨Ab, cb, rfl, hI, hb⟩
  have HL3 := Aside0.mk (HL2.out.next hb (lat_P hI))
  clear hI hb HL2
  go_wp2_with fail
  refine (c_parseQ _ EQ.out).mono ?_
  rintro e w4 ⟨Aq, cq, rfl, hI, hb⟩
  have HL4 := Aside0.mk (HL3.out.next hb (lat_Q hI))
  clear hI hb HL3
  go_wp2_with fail
  refine (c_awake _).mono ?_
  rintro e w5 ⟨rfl, hb⟩
  have HL5 := Aside0.mk (HL4.out.step hb)
  clear hb HL4
  go_wp2_with fail
  go_ret
  exact ⟨rfl, (HL5.out.here.1.1.1.1)⟩
set_option maxRecDepth 100000 in
set_option maxHeartbeats 1600000 in
theorem back_ny {w : World} {Aa : Option Addr} {ca : Nat} {a : List Sn} {s : ByteArray} (ha : InP Aa ca a w) (la : a.length ≤ 4194304) {t : ByteArray} {b d : List Sn} {i f : Int} {q : List Q} (EI : Ev (fun k => posternref07_Is.f k (a.map toR)) false) (EP : Ev (fun k => span_Parse.f k s) (b, 0, 0)) (EX : Ev (fun k => span_Text.f k b) (s, 0)) (ES : Ev (fun k => span_Is.f k b) true) :
    Calls Try.prog 9 #[.slice Aa a.length ca, .string s] w (Yes w) := by
  have HL0 := Aside0.mk ((lat_base w).next (Below.refl _ _) (lat_P ha))
  clear ha
  replace EI := Aside0.mk EI
  replace EP := Aside0.mk EP
  replace EX := Aside0.mk EX
  replace ES := Aside0.mk ES
  have GA := Aside0.mk (fun (W : World) (h : InP Aa ca a W) => c_given h la)
  generalize hme : a.map toR = m at *
  clear hme la
  go_enter Try.func9, Try.ntmps9
  go_wp2_with fail
  refine (GA.out _ (HL0.out.here.2)).mono ?_
  rintro e w1 ⟨Am, cm, rfl, hI, hb⟩
  have HL1 := Aside0.mk (HL0.out.next hb (lat_Q hI))
  clear hI hb HL0
  go_wp2_with fail
  refine (c_isQ (HL1.out.here.2) EI.out).mono ?_
  rintro e w2 ⟨rfl, hb⟩
  have HL2 := Aside0.mk (HL1.out.step hb)
  clear hb HL1
  go_wp2_with fail
  refine (c_parse _ EP.out).mono ?_
  rintro e w3 ⟨Ab, cb, rfl, hI, hb⟩
  have HL3 := Aside0.mk (HL2.out.next hb (lat_P hI))
  clear hI hb HL2
  go_wp2_with fail
  refine (c_text (HL3.out.here.2) EX.out).mono ?_
  rintro e w4 ⟨rfl, hb⟩
  have HL4 := Aside0.mk (HL3.out.step hb)
  clear hb HL3
  go_wp2_with fail
  refine (c_awake _).mono ?_
  rintro e w5 ⟨rfl, hb⟩
  have HL5 := Aside0.mk (HL4.out.step hb)
  clear hb HL4
  go_wp2_with fail
  refine (c_is (HL5.out.here.2) ES.out).mono ?_
  rintro e w6 ⟨rfl, hb⟩
  have HL6 := Aside0.mk (HL5.out.step hb)
  clear hb HL5
  go_wp2_with fail
  go_ret
  exact ⟨rfl, (HL6.out.here.1.1.1)⟩
set_option maxRecDepth 100000 in
set_option maxHeartbeats 1600000 in
theorem back_yn {w : World} {Aa : Option Addr} {ca : Nat} {a : List Sn} {s : ByteArray} (ha : InP Aa ca a w) (la : a.length ≤ 4194304) {t : ByteArray} {b d : List Sn} {i f : Int} {q : List Q} (EI : Ev (fun k => posternref07_Is.f k (a.map toR)) true) (hd : d = a) (ET : Ev (fun k => span_Text.f k a) (t, 0)) (EB : Ev (fun k => span_Parse.f k t) (d, 0, 0)) (EL : Ev (fun k => posternlaw07_alike.f k d (a.map toR)) true) (hf0 : (f == 0) = false) (hf : wrap64 f = f) (EP : Ev (fun k => span_Parse.f k s) (b, i, f)) (EQ : Ev (fun k => posternref07_Parse.f k s) (q, i, f)) :
    Calls Try.prog 9 #[.slice Aa a.length ca, .string s] w (Yes w) := by
  clear hd
  have HL0 := Aside0.mk ((lat_base w).next (Below.refl _ _) (lat_P ha))
  clear ha
  replace EI := Aside0.mk EI
  replace ET := Aside0.mk ET
  replace EB := Aside0.mk EB
  replace EL := Aside0.mk EL
  replace EP := Aside0.mk EP
  replace EQ := Aside0.mk EQ
  have GA := Aside0.mk (fun (W : World) (h : InP Aa ca a W) => c_given h la)
  generalize hme : a.map toR = m at *
  clear hme la
  go_enter Try.func9, Try.ntmps9
  go_wp2_with fail
  refine (GA.out _ (HL0.out.here.2)).mono ?_
  rintro e w1 ⟨Am, cm, rfl, hI, hb⟩
  have HL1 := Aside0.mk (HL0.out.next hb (lat_Q hI))
  clear hI hb HL0
  go_wp2_with fail
  refine (c_isQ (HL1.out.here.2) EI.out).mono ?_
  rintro e w2 ⟨rfl, hb⟩
  have HL2 := Aside0.mk (HL1.out.step hb)
  clear hb HL1
  go_wp2_with fail
  refine (c_text (HL2.out.here.1.2) ET.out).mono ?_
  rintro e w3 ⟨rfl, hb⟩
  have HL3 := Aside0.mk (HL2.out.step hb)
  clear hb HL2
  go_wp2_with fail
  refine (c_parse _ EB.out).mono ?_
  rintro e w4 ⟨Ad, cd, rfl, hI, hb⟩
  have HL4 := Aside0.mk (HL3.out.next hb (lat_P hI))
  clear hI hb HL3
  go_wp2_with fail
  refine (GA.out _ (HL4.out.here.1.1.2)).mono ?_
  rintro e w5 ⟨Am2, cm2, rfl, hI, hb⟩
  have HL5 := Aside0.mk (HL4.out.next hb (lat_Q hI))
  clear hI hb HL4
  go_wp2_with fail
  refine (c_alike (HL5.out.here.1.2) (HL5.out.here.2) EL.out).mono ?_
  rintro e w6 ⟨rfl, hb⟩
  have HL6 := Aside0.mk (HL5.out.step hb)
  clear hb HL5
  go_wp2_with fail
  refine (c_parse _ EP.out).mono ?_
  rintro e w7 ⟨Ab, cb, rfl, hI, hb⟩
  have HL7 := Aside0.mk (HL6.out.next hb (lat_P hI))
  clear hI hb HL6
  go_wp2_with fail
  refine (c_parseQ _ EQ.out).mono ?_
  rintro e w8 ⟨Aq, cq, rfl, hI, hb⟩
  have HL8 := Aside0.mk (HL7.out.next hb (lat_Q hI))
  clear hI hb HL7
  go_wp2_with fail
  refine (c_awake _).mono ?_
  rintro e w9 ⟨rfl, hb⟩
  have HL9 := Aside0.mk (HL8.out.step hb)
  clear hb HL8
  go_wp2_with fail
  go_ret
  exact ⟨rfl, (HL9.out.here.1.1.1.1.1.1)⟩
set_option maxRecDepth 100000 in
set_option maxHeartbeats 1600000 in
theorem back_yy {w : World} {Aa : Option Addr} {ca : Nat} {a : List Sn} {s : ByteArray} (ha : InP Aa ca a w) (la : a.length ≤ 4194304) {t : ByteArray} {b d : List Sn} {i f : Int} {q : List Q} (EI : Ev (fun k => posternref07_Is.f k (a.map toR)) true) (hd : d = a) (ET : Ev (fun k => span_Text.f k a) (t, 0)) (EB : Ev (fun k => span_Parse.f k t) (d, 0, 0)) (EL : Ev (fun k => posternlaw07_alike.f k d (a.map toR)) true) (EP : Ev (fun k => span_Parse.f k s) (b, 0, 0)) (EX : Ev (fun k => span_Text.f k b) (s, 0)) (ES : Ev (fun k => span_Is.f k b) true) :
    Calls Try.prog 9 #[.slice Aa a.length ca, .string s] w (Yes w) := by
  clear hd
  have HL0 := Aside0.mk ((lat_base w).next (Below.refl _ _) (lat_P ha))
  clear ha
  replace EI := Aside0.mk EI
  replace ET := Aside0.mk ET
  replace EB := Aside0.mk EB
  replace EL := Aside0.mk EL
  replace EP := Aside0.mk EP
  replace EX := Aside0.mk EX
  replace ES := Aside0.mk ES
  have GA := Aside0.mk (fun (W : World) (h : InP Aa ca a W) => c_given h la)
  generalize hme : a.map toR = m at *
  clear hme la
  go_enter Try.func9, Try.ntmps9
  go_wp2_with fail
  refine (GA.out _ (HL0.out.here.2)).mono ?_
  rintro e w1 ⟨Am, cm, rfl, hI, hb⟩
  have HL1 := Aside0.mk (HL0.out.next hb (lat_Q hI))
  clear hI hb HL0
  go_wp2_with fail
  refine (c_isQ (HL1.out.here.2) EI.out).mono ?_
  rintro e w2 ⟨rfl, hb⟩
  have HL2 := Aside0.mk (HL1.out.step hb)
  clear hb HL1
  go_wp2_with fail
  refine (c_text (HL2.out.here.1.2) ET.out).mono ?_
  rintro e w3 ⟨rfl, hb⟩
  have HL3 := Aside0.mk (HL2.out.step hb)
  clear hb HL2
  go_wp2_with fail
  refine (c_parse _ EB.out).mono ?_
  rintro e w4 ⟨Ad, cd, rfl, hI, hb⟩
  have HL4 := Aside0.mk (HL3.out.next hb (lat_P hI))
  clear hI hb HL3
  go_wp2_with fail
  refine (GA.out _ (HL4.out.here.1.1.2)).mono ?_
  rintro e w5 ⟨Am2, cm2, rfl, hI, hb⟩
  have HL5 := Aside0.mk (HL4.out.next hb (lat_Q hI))
  clear hI hb HL4
  go_wp2_with fail
  refine (c_alike (HL5.out.here.1.2) (HL5.out.here.2) EL.out).mono ?_
  rintro e w6 ⟨rfl, hb⟩
  have HL6 := Aside0.mk (HL5.out.step hb)
  clear hb HL5
  go_wp2_with fail
  refine (c_parse _ EP.out).mono ?_
  rintro e w7 ⟨Ab, cb, rfl, hI, hb⟩
  have HL7 := Aside0.mk (HL6.out.next hb (lat_P hI))
  clear hI hb HL6
  go_wp2_with fail
  refine (c_text (HL7.out.here.2) EX.out).mono ?_
  rintro e w8 ⟨rfl, hb⟩
  have HL8 := Aside0.mk (HL7.out.step hb)
  clear hb HL7
  go_wp2_with fail
  refine (c_awake _).mono ?_
  rintro e w9 ⟨rfl, hb⟩
  have HL9 := Aside0.mk (HL8.out.step hb)
  clear hb HL8
  go_wp2_with fail
  refine (c_is (HL9.out.here.2) ES.out).mono ?_
  rintro e w10 ⟨rfl, hb⟩
  have HL10 := Aside0.mk (HL9.out.step hb)
  clear hb HL9
  go_wp2_with fail
  go_ret
  exact ⟨rfl, (HL10.out.here.1.1.1.1.1)⟩
theorem spanBack_calls (w : World) (Aa : Option Addr) (ca : Nat) (a : List Sn) (hA : Kd.C k50 w Aa a.length a) (hca : a.length ≤ ca) (_ : Fits a) (la : a.length ≤ 1048576) (s : ByteArray) (ls : s.data.toList.length ≤ 1048576) :
    Calls Try.prog 9 #[.slice Aa a.length ca, .string s] w (Yes w) := by
  have hs : s.size ≤ 1048576 := by rw [data_length] at ls; exact ls
  have i1 := isQ_ev (a.map toR) (by rw [List.length_map]; omega)
  rw [qrs_toR] at i1
  have e2 := parse_ev s (by omega)
  have e3 := parseQ_ev s (by omega)
  have h4 := parse_err s
  have h5 := parse_len s
  have h6 := parse_back (s := s)
  generalize parse s = pp at e2 e3 h4 h5 h6
  obtain ⟨b, i, f⟩ := pp
  simp only at h4 h5 h6
  have hf : wrap64 f = f := by unfold wrap64; omega
  have e5 := text_ev b (by omega)
  have e6 := isP_ev b (by omega)
  have one : isB (prs a) = true → ∃ t, Ev (fun k => span_Text.f k a) (t, 0) ∧ Ev (fun k => span_Parse.f k t) (a, 0, 0) ∧ Ev (fun k => posternlaw07_alike.f k a (a.map toR)) true := fun ia => by
    have e1 := text_ev a la
    rw [if_pos ia] at e1
    have hl : (txt true a).length ≤ 1099511627776 := by
      have := txt_len true a
      omega
    have e7 := parse_ev (strOfNums (txt true a)) (by rw [← bytesOf_length, bytes_str _ (txt_rng true a)]; exact hl)
    rw [parse_told ia] at e7
    have e8 := alike_ev a (a.map toR) (by omega)
    rw [decide_eq_true rfl] at e8
    exact ⟨_, e1, e7, e8⟩
  by_cases h0 : f = 0
  · subst h0
    obtain ⟨k1, k2, k3⟩ := h6 rfl
    subst k3
    rw [if_pos k1, k2] at e5
    rw [k1] at e6
    cases ia : isB (prs a) with
    | false =>
      rw [ia] at i1
      exact back_ny (t := s) (d := a) (i := 0) (f := 0) (q := []) ⟨hA, hca⟩ (by omega) i1 e2 e5 e6
    | true =>
      obtain ⟨t, g1, g2, g3⟩ := one ia
      rw [ia] at i1
      exact back_yy (i := 0) (f := 0) (q := []) ⟨hA, hca⟩ (by omega) i1 rfl g1 g2 g3 e2 e5 e6
  · have hf0 : (f == 0) = false := by simpa using h0
    cases ia : isB (prs a) with
    | false =>
      rw [ia] at i1
      exact back_nn (t := s) (d := a) ⟨hA, hca⟩ (by omega) i1 hf0 hf e2 e3
    | true =>
      obtain ⟨t, g1, g2, g3⟩ := one ia
      rw [ia] at i1
      exact back_yn ⟨hA, hca⟩ (by omega) i1 rfl g1 g2 g3 hf0 hf e2 e3

end Go.Proofs.Ytkpdccegamcppaa.PSpan
