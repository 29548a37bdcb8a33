/- SpanMemory: the law's call. -/
import Derived.Test.YtkpdccegamcppaaXMem
import Derived.Test.YtkpdccegamcppaaXLaws
import Derived.Test.YtkpdccegamcppaaXRow
namespace Go.Proofs.Ytkpdccegamcppaa.PSpan
open Go.RowKit Go.Proofs.YtkpdccegamcppaaW.PrintWords Go.Proofs.YtkpdccegamcppaaW.PrintLast Go.Proofs.YtkpdccegamcppaaW.PrintMore Go.Proofs.Ytkpdccegamcppaa.SpanP
set_option linter.unusedVariables false
set_option linter.unusedSimpArgs false

set_option maxRecDepth 100000 in
set_option maxHeartbeats 3200000 in
theorem mem_one {w : World} {Aa Ab : Option Addr} {ca cb : Nat} {a b : List Sn} (ha : InP Aa ca a w) (hb : InP Ab cb b w) (la : a.length ≤ 4194304) (lb : b.length ≤ 4194304) (EI : Ev (fun k => posternref07_Is.f k (a.map toR)) false) :
    Calls Try.prog 6 #[.slice Aa a.length ca, .slice Ab b.length cb] w (Yes w) := by
  have HL0 := Aside0.mk (((lat_base w).next (Below.refl _ _) (lat_P ha)).next (Below.refl _ _) (lat_P hb))
  clear ha hb
  replace EI := Aside0.mk EI
  have GA := Aside0.mk (fun (W : World) (h : InP Aa ca a W) => c_given h la)
  have GB := Aside0.mk (fun (W : World) (h : InP Ab cb b W) => c_given h lb)
  generalize hme : a.map toR = m1 at *
  generalize hne : b.map toR = m2 at *
  clear hme hne la lb
  go_enter Try.func6, Try.ntmps6
  go_wp2_with fail
  refine (GA.out _ (HL0.out.here.1.2)).mono ?_
  rintro e w1 ⟨Am1, cm1, rfl, hI, hb⟩
  have HL1 := Aside0.mk (HL0.out.next hb (lat_Q hI))
  clear hI hb HL0
  go_wp2_with fail
  refine (c_isQ (HL1.out.here.2) EI.out).mono ?_
  rintro e w2 ⟨rfl, hb⟩
  have HL2 := Aside0.mk (HL1.out.step hb)
  clear hb HL1
  go_wp2_with fail
  refine (c_awake _).mono ?_
  rintro e w3 ⟨rfl, hb⟩
  have HL3 := Aside0.mk (HL2.out.step hb)
  clear hb HL2
  go_wp2_with fail
  go_ret
  exact ⟨rfl, (HL3.out.here.1.1.1)⟩
set_option maxRecDepth 100000 in
set_option maxHeartbeats 3200000 in
theorem mem_two {w : World} {Aa Ab : Option Addr} {ca cb : Nat} {a b : List Sn} (ha : InP Aa ca a w) (hb : InP Ab cb b w) (la : a.length ≤ 4194304) (lb : b.length ≤ 4194304) (EI : Ev (fun k => posternref07_Is.f k (a.map toR)) true) (EJ : Ev (fun k => posternref07_Is.f k (b.map toR)) false) :
    Calls Try.prog 6 #[.slice Aa a.length ca, .slice Ab b.length cb] w (Yes w) := by
  have HL0 := Aside0.mk (((lat_base w).next (Below.refl _ _) (lat_P ha)).next (Below.refl _ _) (lat_P hb))
  clear ha hb
  replace EI := Aside0.mk EI
  replace EJ := Aside0.mk EJ
  have GA := Aside0.mk (fun (W : World) (h : InP Aa ca a W) => c_given h la)
  have GB := Aside0.mk (fun (W : World) (h : InP Ab cb b W) => c_given h lb)
  generalize hme : a.map toR = m1 at *
  generalize hne : b.map toR = m2 at *
  clear hme hne la lb
  go_enter Try.func6, Try.ntmps6
  go_wp2_with fail
  refine (GA.out _ (HL0.out.here.1.2)).mono ?_
  rintro e w1 ⟨Am1, cm1, rfl, hI, hb⟩
  have HL1 := Aside0.mk (HL0.out.next hb (lat_Q hI))
  clear hI hb HL0
  go_wp2_with fail
  refine (c_isQ (HL1.out.here.2) EI.out).mono ?_
  rintro e w2 ⟨rfl, hb⟩
  have HL2 := Aside0.mk (HL1.out.step hb)
  clear hb HL1
  go_wp2_with fail
  refine (GB.out _ (HL2.out.here.1.2)).mono ?_
  rintro e w3 ⟨Am2, cm2, rfl, hI, hb⟩
  have HL3 := Aside0.mk (HL2.out.next hb (lat_Q hI))
  clear hI hb HL2
  go_wp2_with fail
  refine (c_isQ (HL3.out.here.2) EJ.out).mono ?_
  rintro e w4 ⟨rfl, hb⟩
  have HL4 := Aside0.mk (HL3.out.step hb)
  clear hb HL3
  go_wp2_with fail
  refine (c_awake _).mono ?_
  rintro e w5 ⟨rfl, hb⟩
  have HL5 := Aside0.mk (HL4.out.step hb)
  clear hb HL4
  go_wp2_with fail
  go_ret
  exact ⟨rfl, (HL5.out.here.1.1.1.1)⟩
def memT : Bool × List (List Nat × List Nat) := (true, [([], []), ([], []), ([1], [1]), ([0, 2], [0, 2]), ([], []), ([], []), ([5], [5]), ([4, 6, 3], [4, 6]), ([], []), ([], []), ([9], [9]), ([8, 10, 7], [8, 10]), ([3, 11, 0, 1, 2, 3], [0, 3]), ([7, 12, 0, 1, 2, 3, 4, 5, 6, 7, 12], [4, 7]), ([11, 13, 0, 1, 2, 3, 4, 5, 6, 7, 8, 9, 10, 11, 12, 13], [8, 11])])
def memB : List Nat := [0, 0, 2, 7, 0, 0, 32, 127, 0, 0, 512, 2047, 4095, 8191, 16383]
theorem mem_tab : rtab .any (opsOf Try.f6 11) = memT := by kernel_rfl
theorem mem_bits : waitsOk memT.2 memB = true := by kernel_rfl
set_option maxRecDepth 100000 in
set_option maxHeartbeats 3200000 in
theorem mem_all {w : World} {Aa Ab : Option Addr} {ca cb : Nat} {a b : List Sn} (ha : InP Aa ca a w) (hb : InP Ab cb b w) (la : a.length ≤ 4194304) (lb : b.length ≤ 4194304) {x y z p v : List Sn} {u1 u2 f g n1 n2 h : Int} (EI : Ev (fun k => posternref07_Is.f k (a.map toR)) true) (EJ : Ev (fun k => posternref07_Is.f k (b.map toR)) true) (EU : Ev (fun k => span_Union.f k [a, b]) (x, u1, u2)) (EC : Ev (fun k => span_Cross.f k a b) (y, f)) (EM : Ev (fun k => span_Minus.f k a b) (z, g)) (EK : span_Make.f a = some (p, n1, n2)) (EO : Ev (fun k => span_Other.f k a) (v, h)) (lx : x.length ≤ 4194304) (ly : y.length ≤ 4194304) (lz : z.length ≤ 4194304) (lp : p.length ≤ 4194304) (lv : v.length ≤ 4194304) :
    Calls Try.prog 6 #[.slice Aa a.length ca, .slice Ab b.length cb] w (Yes w) := by
  have HL0 := Aside0.mk (((lat_base w).next (Below.refl _ _) (lat_P ha)).next (Below.refl _ _) (lat_P hb))
  clear ha hb
  replace EI := Aside0.mk EI
  replace EJ := Aside0.mk EJ
  replace EU := Aside0.mk EU
  replace EC := Aside0.mk EC
  replace EM := Aside0.mk EM
  replace EK := Aside0.mk EK
  replace EO := Aside0.mk EO
  have GY := Aside0.mk (fun (W : World) (A : Option Addr) (c : Nat) (h : InP A c y W) => z_given h ly)
  have GZ := Aside0.mk (fun (W : World) (A : Option Addr) (c : Nat) (h : InP A c z W) => z_given h lz)
  have al : ∀ l : List Sn, l.length ≤ 4194304 → Ev (fun k => posternlaw07_alike.f k l (l.map toR)) true := fun l hl => by
    have := alike_ev l (l.map toR) (by omega)
    rw [decide_eq_true rfl] at this
    exact this
  have ALa := Aside0.mk (al a la)
  have ALb := Aside0.mk (al b lb)
  have ALy := Aside0.mk (al y ly)
  have ALz := Aside0.mk (al z lz)
  clear al
  generalize hye : y.map toR = m3 at *
  generalize hze : z.map toR = m4 at *
  clear hye hze
  have GA := Aside0.mk (fun (W : World) (h : InP Aa ca a W) => c_given h la)
  have GB := Aside0.mk (fun (W : World) (h : InP Ab cb b W) => c_given h lb)
  generalize hme : a.map toR = m1 at *
  generalize hne : b.map toR = m2 at *
  clear hme hne la lb
  replace lx := Aside0.mk lx
  replace lp := Aside0.mk lp
  replace lv := Aside0.mk lv
  clear ly lz
  go_enter Try.func6, Try.ntmps6
  go_wp2_with fail
  refine (GA.out _ (HL0.out.here.1.2)).mono ?_
  rintro e w1 ⟨Am1, cm1, rfl, hI, hb⟩
  have HL1 := Aside0.mk (HL0.out.next hb (lat_Q hI))
  clear hI hb HL0
  go_wp2_with fail
  refine (c_isQ (HL1.out.here.2) EI.out).mono ?_
  rintro e w2 ⟨rfl, hb⟩
  have HL2 := Aside0.mk (HL1.out.step hb)
  clear hb HL1
  go_wp2_with fail
  refine (GB.out _ (HL2.out.here.1.2)).mono ?_
  rintro e w3 ⟨Am2, cm2, rfl, hI, hb⟩
  have HL3 := Aside0.mk (HL2.out.next hb (lat_Q hI))
  clear hI hb HL2
  go_wp2_with fail
  refine (c_isQ (HL3.out.here.2) EJ.out).mono ?_
  rintro e w4 ⟨rfl, hb⟩
  have HL4 := Aside0.mk (HL3.out.step hb)
  clear hb HL3
  go_wp2_with fail
  refine (GA.out _ (HL4.out.here.1.1.1.2)).mono ?_
  rintro e w5 ⟨At1, ct1, rfl, hI, hb⟩
  have HL5 := Aside0.mk (HL4.out.next hb (lat_Q hI))
  clear hI hb HL4
  go_wp2_with fail
  refine (GB.out _ (HL5.out.here.1.1.1.2)).mono ?_
  rintro e w6 ⟨At2, ct2, rfl, hI, hb⟩
  have HL6 := Aside0.mk (HL5.out.next hb (lat_Q hI))
  clear hI hb HL5
  have HLS := HL6
  go_wp2_with fail
  refine (z_union2 (HL6.out.here.1.1.1.1.1.2) (HL6.out.here.1.1.1.1.2) EU.out).mono ?_
  rintro e w7 ⟨Ax, cx, rfl, hI, hb⟩
  have SZ6 := Aside0.mk hb.size
  have HS6 := Aside0.mk hb
  have HL7 := Aside0.mk (HL6.out.next hb (lat_Z hI))
  clear hI hb HL6
  go_wp2_with fail
  refine (z_cross (HL7.out.here.1.1.1.1.1.1.2) (HL7.out.here.1.1.1.1.1.2) EC.out).mono ?_
  rintro e w8 ⟨Ay, cy, rfl, hI, hb⟩
  have SZ7 := Aside0.mk hb.size
  have HS6 := Aside0.mk (HS6.out.trans (hb.mono HS6.out.size))
  have HL8 := Aside0.mk (HL7.out.next hb (lat_Z hI))
  clear hI hb HL7
  go_wp2_with fail
  refine (z_minus (HL8.out.here.1.1.1.1.1.1.1.2) (HL8.out.here.1.1.1.1.1.1.2) EM.out).mono ?_
  rintro e w9 ⟨Az, cz, rfl, hI, hb⟩
  have SZ8 := Aside0.mk hb.size
  have HS6 := Aside0.mk (HS6.out.trans (hb.mono HS6.out.size))
  have HL9 := Aside0.mk (HL8.out.next hb (lat_Z hI))
  clear hI hb HL8
  go_wp2_with fail
  refine (z_make (HL9.out.here.1.1.1.1.1.1.1.1.2) EK.out).mono ?_
  rintro e w10 ⟨Ap, cp, rfl, hI, hb⟩
  have SZ9 := Aside0.mk hb.size
  have HS6 := Aside0.mk (HS6.out.trans (hb.mono HS6.out.size))
  have HL10 := Aside0.mk (HL9.out.next hb (lat_Z hI))
  clear hI hb HL9
  go_wp2_with fail
  refine (z_other (HL10.out.here.1.1.1.1.1.1.1.1.1.2) EO.out).mono ?_
  rintro e w11 ⟨Av, cv, rfl, hI, hb⟩
  have SZ10 := Aside0.mk hb.size
  have HS6 := Aside0.mk (HS6.out.trans (hb.mono HS6.out.size))
  have HL11 := Aside0.mk (HL10.out.next hb (lat_Z hI))
  clear hI hb HL10
  go_wp2_with fail
  refine (GY.out _ _ _ (Zs.inP (HL11.out.here.1.1.1.2))).mono ?_
  rintro e w12 ⟨Am3, cm3, rfl, hI, hb⟩
  have SZ11 := Aside0.mk hb.size
  have HS6 := Aside0.mk (HS6.out.trans (hb.mono HS6.out.size))
  have HL12 := Aside0.mk (HL11.out.next hb (lat_Z hI))
  clear hI hb HL11
  go_wp2_with fail
  refine (GZ.out _ _ _ (Zs.inP (HL12.out.here.1.1.1.2))).mono ?_
  rintro e w13 ⟨Am4, cm4, rfl, hI, hb⟩
  have SZ12 := Aside0.mk hb.size
  have HS6 := Aside0.mk (HS6.out.trans (hb.mono HS6.out.size))
  have HL13 := Aside0.mk (HL12.out.next hb (lat_Z hI))
  clear hI hb HL12
  go_upto_region 11 with (fail)
  have HSZ := Aside0.mk (And.intro SZ6.out (And.intro SZ7.out (And.intro SZ8.out (And.intro SZ9.out (And.intro SZ10.out (And.intro SZ11.out SZ12.out))))))
  clear SZ6 SZ7 SZ8 SZ9 SZ10 SZ11 SZ12
  obtain ⟨N, hN⟩ : ∃ N, N = w13.alloc (.cells #[.int .i32 (-9), .int .i32 (-9)] 50) := ⟨_, rfl⟩
  obtain ⟨gm, hgm⟩ : ∃ g, g = w13.heap.size := ⟨_, rfl⟩
  have HM := Aside0.mk (show N.heap[gm]? = some (.cells #[.int .i32 (-9), .int .i32 (-9)] 50 (0, 0)) from by rw [hN, hgm]; exact heap_alloc_new w13 _)
  have HNB := Aside0.mk (show Below w13.heap.size w13 N from by rw [hN]; exact below_alloc (Below.refl _ _) _)
  obtain ⟨bad, hbad⟩ : ∃ bad : Nat → Prop, bad = fun k => (w6.heap.size ≤ k ∧ k < w7.heap.size) ∨ (w9.heap.size ≤ k ∧ k < w11.heap.size) := ⟨_, rfl⟩
  have HBD := Aside0.mk (show ∀ k, bad k → (w6.heap.size ≤ k ∧ k < w7.heap.size) ∨ (w9.heap.size ≤ k ∧ k < w11.heap.size) from by rw [hbad]; exact fun _ h => h)
  have HBI := Aside0.mk (show ∀ k, ((w6.heap.size ≤ k ∧ k < w7.heap.size) ∨ (w9.heap.size ≤ k ∧ k < w11.heap.size)) → bad k from by rw [hbad]; exact fun _ h => h)
  clear hbad
  have HSZ := Aside0.mk (And.intro (show w13.heap.size ≤ N.heap.size from HNB.out.size) HSZ.out)
  have HST := Aside0.mk (st_init (bad := bad) ((HL13.out N HNB.out).1.1.1.1.1.1.2) ((HL13.out N HNB.out).1.1.1.2) ((HL13.out N HNB.out).1.1.2) (by have := HSZ.out; omega) (by have := HSZ.out; omega) (by have := HSZ.out; omega) (fun k h1 h2 => HBI.out k (by have := HSZ.out; omega)) (fun k h1 h2 => HBI.out k (by have := HSZ.out; omega)) (fun k h1 h2 => HBI.out k (by have := HSZ.out; omega)))
  have HB6 := Aside0.mk (HS6.out.trans (HNB.out.mono HS6.out.size))
  have hgb : ¬ bad gm := fun h => by have := HBD.out gm h; have := HSZ.out; omega
  have HLD := Aside0.mk (fun {W : World} {L : List (Value × List Sn)} (h : St N bad W L) => (show (W.cell? ⟨gm, 0, none⟩ = some (.int .i32 (-9)) ∧ W.cell? ⟨gm, 1, none⟩ = some (.int .i32 (-9))) from ⟨(h.held HM.out hgb 0).trans rfl, (h.held HM.out hgb 1).trans rfl⟩))
  rw [← hN, ← hgm]
  clear hgb HBI HS6
  clear hN hgm
  obtain ⟨x1, hx1⟩ : ∃ l, x ++ [mk9] = l := ⟨_, rfl⟩
  obtain ⟨p1, hp1⟩ : ∃ l, p ++ [mk9] = l := ⟨_, rfl⟩
  obtain ⟨v1, hv1⟩ : ∃ l, v ++ [mk9] = l := ⟨_, rfl⟩
  have Ex := Aside0.mk hx1
  have Ep := Aside0.mk hp1
  have Ev' := Aside0.mk hv1
  clear hx1 hp1 hv1
  have Lx1 := Aside0.mk (show x1.length ≤ 4194305 from by rw [← Ex.out, List.length_append]; have := lx.out; simp only [List.length_cons, List.length_nil]; omega)
  have Lp1 := Aside0.mk (show p1.length ≤ 4194305 from by rw [← Ep.out, List.length_append]; have := lp.out; simp only [List.length_cons, List.length_nil]; omega)
  have Lv1 := Aside0.mk (show v1.length ≤ 4194305 from by rw [← Ev'.out, List.length_append]; have := lv.out; simp only [List.length_cons, List.length_nil]; omega)
  have HST := Aside0.mk (HST.out.below (below_drew1 (Below.refl _ _)))
  refine start_ (n := 15) (S := fun w' => (w'.cell? ⟨gm, 0, none⟩ = some (.int .i32 (-9)) ∧ w'.cell? ⟨gm, 1, none⟩ = some (.int .i32 (-9)))) (ds := []) #[false, false, false, false, false, false, false, false, false, false, false, false, false, false, false] (by kernel_rfl) rfl rfl (HLD.out HST.out) (fun hHeld => ?_); refine with_tabW mem_tab mem_bits (fun HT_ HW_ => ?_)
  generalize N.drew = Nd at HST hHeld ⊢
  refine pure_ (i := 0) (N := some 76) (v := ?_) (a' := ?_) #[true, false, false, false, false, false, false, false, false, false, false, false, false, false, false] rfl rfl (any_of HT_.out (by kernel_rfl)) (fun _ _ _ h => h) (Or.inl ⟨by rfl, ?_⟩) ?_ ?_
  rotate_left
  · intro w'
    go_simp
    with_reducible rfl
  rotate_left
  · simp only [Act.put, List.setIfInBounds_toArray, List.set_cons_zero, List.set_cons_succ, i64_w, i32_w]
    rfl
  refine pure_ (i := 4) (N := some 80) (v := ?_) (a' := ?_) #[true, false, false, false, true, false, false, false, false, false, false, false, false, false, false] rfl rfl (any_of HT_.out (by kernel_rfl)) (fun _ _ _ h => h) (Or.inl ⟨by rfl, ?_⟩) ?_ ?_
  rotate_left
  · intro w'
    go_simp
    with_reducible rfl
  rotate_left
  · simp only [Act.put, List.setIfInBounds_toArray, List.set_cons_zero, List.set_cons_succ, i64_w, i32_w]
    rfl
  refine pure_ (i := 8) (N := some 84) (v := ?_) (a' := ?_) #[true, false, false, false, true, false, false, false, true, false, false, false, false, false, false] rfl rfl (any_of HT_.out (by kernel_rfl)) (fun _ _ _ h => h) (Or.inl ⟨by rfl, ?_⟩) ?_ ?_
  rotate_left
  · intro w'
    go_simp
    with_reducible rfl
  rotate_left
  · simp only [Act.put, List.setIfInBounds_toArray, List.set_cons_zero, List.set_cons_succ, i64_w, i32_w]
    rfl
  refine take_ (i := 1) (N := some 77) (v := ?_) (a' := ?_) #[true, true, false, false, true, false, false, false, true, false, false, false, false, false, false] rfl rfl (take_ofW HT_.out HW_.out (by kernel_rfl)) (fun _ _ _ h => h) (Or.inl ⟨by rfl, ?_⟩) hHeld ?_ ?_
  rotate_left
  · rintro w' ⟨s0, s1⟩
    go_simp
    with_reducible rfl
  rotate_left
  · simp only [Act.put, List.setIfInBounds_toArray, List.set_cons_zero, List.set_cons_succ, i64_w, i32_w]
    rfl
  refine take_ (i := 5) (N := some 81) (v := ?_) (a' := ?_) #[true, true, false, false, true, true, false, false, true, false, false, false, false, false, false] rfl rfl (take_ofW HT_.out HW_.out (by kernel_rfl)) (fun _ _ _ h => h) (Or.inl ⟨by rfl, ?_⟩) hHeld ?_ ?_
  rotate_left
  · rintro w' ⟨s0, s1⟩
    go_simp
    with_reducible rfl
  rotate_left
  · simp only [Act.put, List.setIfInBounds_toArray, List.set_cons_zero, List.set_cons_succ, i64_w, i32_w]
    rfl
  refine take_ (i := 9) (N := some 85) (v := ?_) (a' := ?_) #[true, true, false, false, true, true, false, false, true, true, false, false, false, false, false] rfl rfl (take_ofW HT_.out HW_.out (by kernel_rfl)) (fun _ _ _ h => h) (Or.inl ⟨by rfl, ?_⟩) hHeld ?_ ?_
  rotate_left
  · rintro w' ⟨s0, s1⟩
    go_simp
    with_reducible rfl
  rotate_left
  · simp only [Act.put, List.setIfInBounds_toArray, List.set_cons_zero, List.set_cons_succ, i64_w, i32_w]
    rfl
  refine join_ (σ := Value × Value × Value × Value × Value) 4 #[true, true, true, true, true, true, true, true, true, true, true, false, false, false, false] (fun s_ => [(78, s_.1), (79, s_.2.1), (82, s_.2.2.1), (83, s_.2.2.2.1), (86, s_.2.2.2.2)]) (fun s_ w' => (w'.cell? ⟨gm, 0, none⟩ = some (.int .i32 (-9)) ∧ w'.cell? ⟨gm, 1, none⟩ = some (.int .i32 (-9))) ∧ St N bad w' [(s_.2.1, x1), (s_.2.2.2.1, p1), (.slice Av v.length cv, v), (s_.1, [mk9]), (s_.2.2.1, [mk9]), (s_.2.2.2.2, [mk9])]) ?_ ?_
  rotate_left
  · intro hJ2_3_6_7_10
    refine join_ (σ := Value × Value × Value × Value) 5 #[true, true, true, true, true, true, true, true, true, true, false, false, false, false, false] (fun s_ => [(78, s_.1), (79, s_.2.1), (82, s_.2.2.1), (83, s_.2.2.2)]) (fun s_ w' => (w'.cell? ⟨gm, 0, none⟩ = some (.int .i32 (-9)) ∧ w'.cell? ⟨gm, 1, none⟩ = some (.int .i32 (-9))) ∧ St N bad w' [(s_.2.1, x1), (s_.2.2.2, p1), (.slice Av v.length cv, v), (s_.1, [mk9]), (s_.2.2.1, [mk9]), (.slice none 0 0, [])]) ?_ ?_
    rotate_left
    · intro hJ2_3_6_7
      refine join_ (σ := Value × Value × Value × Value) 5 #[true, true, true, true, true, true, true, false, true, true, true, false, false, false, false] (fun s_ => [(78, s_.1), (79, s_.2.1), (82, s_.2.2.1), (86, s_.2.2.2)]) (fun s_ w' => (w'.cell? ⟨gm, 0, none⟩ = some (.int .i32 (-9)) ∧ w'.cell? ⟨gm, 1, none⟩ = some (.int .i32 (-9))) ∧ St N bad w' [(s_.2.1, x1), (.slice Ap p.length cp, p), (.slice Av v.length cv, v), (s_.1, [mk9]), (s_.2.2.1, [mk9]), (s_.2.2.2, [mk9])]) ?_ ?_
      rotate_left
      · intro hJ2_3_6_10
        refine join_ (σ := Value × Value × Value) 6 #[true, true, true, true, true, true, true, false, true, true, false, false, false, false, false] (fun s_ => [(78, s_.1), (79, s_.2.1), (82, s_.2.2)]) (fun s_ w' => (w'.cell? ⟨gm, 0, none⟩ = some (.int .i32 (-9)) ∧ w'.cell? ⟨gm, 1, none⟩ = some (.int .i32 (-9))) ∧ St N bad w' [(s_.2.1, x1), (.slice Ap p.length cp, p), (.slice Av v.length cv, v), (s_.1, [mk9]), (s_.2.2, [mk9]), (.slice none 0 0, [])]) ?_ ?_
        rotate_left
        · intro hJ2_3_6
          refine join_ (σ := Value × Value × Value) 6 #[true, true, true, true, true, true, false, false, true, true, true, false, false, false, false] (fun s_ => [(78, s_.1), (79, s_.2.1), (86, s_.2.2)]) (fun s_ w' => (w'.cell? ⟨gm, 0, none⟩ = some (.int .i32 (-9)) ∧ w'.cell? ⟨gm, 1, none⟩ = some (.int .i32 (-9))) ∧ St N bad w' [(s_.2.1, x1), (.slice Ap p.length cp, p), (.slice Av v.length cv, v), (s_.1, [mk9]), (.slice none 0 0, []), (s_.2.2, [mk9])]) ?_ ?_
          rotate_left
          · intro hJ2_3_10
            refine join_ (σ := Value × Value × Value) 6 #[true, true, true, false, true, true, true, false, true, true, true, false, false, false, false] (fun s_ => [(78, s_.1), (82, s_.2.1), (86, s_.2.2)]) (fun s_ w' => (w'.cell? ⟨gm, 0, none⟩ = some (.int .i32 (-9)) ∧ w'.cell? ⟨gm, 1, none⟩ = some (.int .i32 (-9))) ∧ St N bad w' [(.slice Ax x.length cx, x), (.slice Ap p.length cp, p), (.slice Av v.length cv, v), (s_.1, [mk9]), (s_.2.1, [mk9]), (s_.2.2, [mk9])]) ?_ ?_
            rotate_left
            · intro hJ2_6_10
              refine join_ (σ := Value × Value) 7 #[true, true, true, true, true, true, false, false, true, true, false, false, false, false, false] (fun s_ => [(78, s_.1), (79, s_.2)]) (fun s_ w' => (w'.cell? ⟨gm, 0, none⟩ = some (.int .i32 (-9)) ∧ w'.cell? ⟨gm, 1, none⟩ = some (.int .i32 (-9))) ∧ St N bad w' [(s_.2, x1), (.slice Ap p.length cp, p), (.slice Av v.length cv, v), (s_.1, [mk9]), (.slice none 0 0, []), (.slice none 0 0, [])]) ?_ ?_
              rotate_left
              · intro hJ2_3
                refine join_ (σ := Value × Value) 7 #[true, true, true, false, true, true, true, false, true, true, false, false, false, false, false] (fun s_ => [(78, s_.1), (82, s_.2)]) (fun s_ w' => (w'.cell? ⟨gm, 0, none⟩ = some (.int .i32 (-9)) ∧ w'.cell? ⟨gm, 1, none⟩ = some (.int .i32 (-9))) ∧ St N bad w' [(.slice Ax x.length cx, x), (.slice Ap p.length cp, p), (.slice Av v.length cv, v), (s_.1, [mk9]), (s_.2, [mk9]), (.slice none 0 0, [])]) ?_ ?_
                rotate_left
                · intro hJ2_6
                  refine join_ (σ := Value × Value) 7 #[true, true, true, false, true, true, false, false, true, true, true, false, false, false, false] (fun s_ => [(78, s_.1), (86, s_.2)]) (fun s_ w' => (w'.cell? ⟨gm, 0, none⟩ = some (.int .i32 (-9)) ∧ w'.cell? ⟨gm, 1, none⟩ = some (.int .i32 (-9))) ∧ St N bad w' [(.slice Ax x.length cx, x), (.slice Ap p.length cp, p), (.slice Av v.length cv, v), (s_.1, [mk9]), (.slice none 0 0, []), (s_.2, [mk9])]) ?_ ?_
                  rotate_left
                  · intro hJ2_10
                    refine join_ (σ := Value × Value) 7 #[true, true, false, false, true, true, true, false, true, true, true, false, false, false, false] (fun s_ => [(82, s_.1), (86, s_.2)]) (fun s_ w' => (w'.cell? ⟨gm, 0, none⟩ = some (.int .i32 (-9)) ∧ w'.cell? ⟨gm, 1, none⟩ = some (.int .i32 (-9))) ∧ St N bad w' [(.slice Ax x.length cx, x), (.slice Ap p.length cp, p), (.slice Av v.length cv, v), (.slice none 0 0, []), (s_.1, [mk9]), (s_.2, [mk9])]) ?_ ?_
                    rotate_left
                    · intro hJ6_10
                      refine join_ (σ := Value) 8 #[true, true, true, false, true, true, false, false, true, true, false, false, false, false, false] (fun s_ => [(78, s_)]) (fun s_ w' => (w'.cell? ⟨gm, 0, none⟩ = some (.int .i32 (-9)) ∧ w'.cell? ⟨gm, 1, none⟩ = some (.int .i32 (-9))) ∧ St N bad w' [(.slice Ax x.length cx, x), (.slice Ap p.length cp, p), (.slice Av v.length cv, v), (s_, [mk9]), (.slice none 0 0, []), (.slice none 0 0, [])]) ?_ ?_
                      rotate_left
                      · intro hJ2
                        refine join_ (σ := Value) 8 #[true, true, false, false, true, true, true, false, true, true, false, false, false, false, false] (fun s_ => [(82, s_)]) (fun s_ w' => (w'.cell? ⟨gm, 0, none⟩ = some (.int .i32 (-9)) ∧ w'.cell? ⟨gm, 1, none⟩ = some (.int .i32 (-9))) ∧ St N bad w' [(.slice Ax x.length cx, x), (.slice Ap p.length cp, p), (.slice Av v.length cv, v), (.slice none 0 0, []), (s_, [mk9]), (.slice none 0 0, [])]) ?_ ?_
                        rotate_left
                        · intro hJ6
                          refine join_ (σ := Value) 8 #[true, true, false, false, true, true, false, false, true, true, true, false, false, false, false] (fun s_ => [(86, s_)]) (fun s_ w' => (w'.cell? ⟨gm, 0, none⟩ = some (.int .i32 (-9)) ∧ w'.cell? ⟨gm, 1, none⟩ = some (.int .i32 (-9))) ∧ St N bad w' [(.slice Ax x.length cx, x), (.slice Ap p.length cp, p), (.slice Av v.length cv, v), (.slice none 0 0, []), (.slice none 0 0, []), (s_, [mk9])]) ?_ ?_
                          rotate_left
                          · intro hJ10
                            refine three_ (i := 2) (j := 6) (k := 10) (Ni := some 78) (Nj := some 82) (Nk := some 86) #[true, true, true, false, true, true, false, false, true, true, false, false, false, false, false] #[true, true, false, false, true, true, true, false, true, true, false, false, false, false, false] #[true, true, false, false, true, true, false, false, true, true, true, false, false, false, false] rfl rfl rfl rfl rfl rfl (three_of HT_.out (by kernel_rfl)) (by decide) (by decide) (by decide) (fun K hK => ?_) (fun K hK => ?_) (fun K hK => ?_)
                            · skip
                              refine Kd.R_lit_step k50 0 50 ?hg (N := 78) ?hd (xs := [mk9]) (inner := [.int .i32 (-9), .int .i32 (-9)]) (ok := fun _ => True) (okp := fun _ => True) ?hr ?hp (fun _ hk => hk) trivial (Below.refl 0 _) (Nat.zero_le _) (by simp) ?_; (case hd => rfl); (case hg => rfl); (case hr => first | (go_simp; done) | (go_simp; rfl)); (case hp => exact (Reps.c2 (show Kd.M k50 _ _ _ mk9 [.int .i32 (-9), .int .i32 (-9)] from (k50_mkM _ _ _ mk9)) (Reps.none _ _)))
                              intro u78 wn ho hb hg hn
                              have n0_ := Aside0.mk (HST.out.write (i := 3) rfl ho hg (.inr hn))
                              clear ho hb hg hn HST
                              refine hK.out _ _ (HLD.out n0_.out) (fun hHeld => ?_)
                              clear hK K
                              refine norm_ (a' := ?_) ?_ ?_
                              rotate_left
                              · show Act.put _ (some 78) _ = _
                                simp only [Act.put, List.setIfInBounds_toArray, List.set_cons_zero, List.set_cons_succ, i64_w, i32_w]
                                rfl
                              exact norm_ (by first | (simp only [putAll, Act.put, List.setIfInBounds_toArray, List.set_cons_zero, List.set_cons_succ]; done) | (simp only [putAll, Act.put, List.setIfInBounds_toArray, List.set_cons_zero, List.set_cons_succ]; rfl)) (hJ2 u78 _ ⟨hHeld, n0_.out⟩)
                            · skip
                              refine Kd.R_lit_step k50 0 50 ?hg (N := 82) ?hd (xs := [mk9]) (inner := [.int .i32 (-9), .int .i32 (-9)]) (ok := fun _ => True) (okp := fun _ => True) ?hr ?hp (fun _ hk => hk) trivial (Below.refl 0 _) (Nat.zero_le _) (by simp) ?_; (case hd => rfl); (case hg => rfl); (case hr => first | (go_simp; done) | (go_simp; rfl)); (case hp => exact (Reps.c2 (show Kd.M k50 _ _ _ mk9 [.int .i32 (-9), .int .i32 (-9)] from (k50_mkM _ _ _ mk9)) (Reps.none _ _)))
                              intro u82 wn ho hb hg hn
                              have n0_ := Aside0.mk (HST.out.write (i := 4) rfl ho hg (.inr hn))
                              clear ho hb hg hn HST
                              refine hK.out _ _ (HLD.out n0_.out) (fun hHeld => ?_)
                              clear hK K
                              refine norm_ (a' := ?_) ?_ ?_
                              rotate_left
                              · show Act.put _ (some 82) _ = _
                                simp only [Act.put, List.setIfInBounds_toArray, List.set_cons_zero, List.set_cons_succ, i64_w, i32_w]
                                rfl
                              exact norm_ (by first | (simp only [putAll, Act.put, List.setIfInBounds_toArray, List.set_cons_zero, List.set_cons_succ]; done) | (simp only [putAll, Act.put, List.setIfInBounds_toArray, List.set_cons_zero, List.set_cons_succ]; rfl)) (hJ6 u82 _ ⟨hHeld, n0_.out⟩)
                            · skip
                              refine Kd.R_lit_step k50 0 50 ?hg (N := 86) ?hd (xs := [mk9]) (inner := [.int .i32 (-9), .int .i32 (-9)]) (ok := fun _ => True) (okp := fun _ => True) ?hr ?hp (fun _ hk => hk) trivial (Below.refl 0 _) (Nat.zero_le _) (by simp) ?_; (case hd => rfl); (case hg => rfl); (case hr => first | (go_simp; done) | (go_simp; rfl)); (case hp => exact (Reps.c2 (show Kd.M k50 _ _ _ mk9 [.int .i32 (-9), .int .i32 (-9)] from (k50_mkM _ _ _ mk9)) (Reps.none _ _)))
                              intro u86 wn ho hb hg hn
                              have n0_ := Aside0.mk (HST.out.write (i := 5) rfl ho hg (.inr hn))
                              clear ho hb hg hn HST
                              refine hK.out _ _ (HLD.out n0_.out) (fun hHeld => ?_)
                              clear hK K
                              refine norm_ (a' := ?_) ?_ ?_
                              rotate_left
                              · show Act.put _ (some 86) _ = _
                                simp only [Act.put, List.setIfInBounds_toArray, List.set_cons_zero, List.set_cons_succ, i64_w, i32_w]
                                rfl
                              exact norm_ (by first | (simp only [putAll, Act.put, List.setIfInBounds_toArray, List.set_cons_zero, List.set_cons_succ]; done) | (simp only [putAll, Act.put, List.setIfInBounds_toArray, List.set_cons_zero, List.set_cons_succ]; rfl)) (hJ10 u86 _ ⟨hHeld, n0_.out⟩)
                          · skip
                            clear HST hHeld
                            rintro u86 ws ⟨hHeld, hst_⟩
                            have HST := Aside0.mk hst_
                            clear hst_
                            refine norm_ (a' := ?_) ?_ ?_
                            rotate_left
                            · simp only [putAll, Act.put, List.setIfInBounds_toArray, List.set_cons_zero, List.set_cons_succ]
                              rfl
                            refine two_ (i := 2) (j := 6) (Ni := some 78) (Nj := some 82) #[true, true, true, false, true, true, false, false, true, true, true, false, false, false, false] #[true, true, false, false, true, true, true, false, true, true, true, false, false, false, false] rfl rfl rfl rfl (two_of HT_.out (by kernel_rfl)) (by decide) (by decide) (fun K hK => ?_) (fun K hK => ?_)
                            · skip
                              refine Kd.R_lit_step k50 0 50 ?hg (N := 78) ?hd (xs := [mk9]) (inner := [.int .i32 (-9), .int .i32 (-9)]) (ok := fun _ => True) (okp := fun _ => True) ?hr ?hp (fun _ hk => hk) trivial (Below.refl 0 _) (Nat.zero_le _) (by simp) ?_; (case hd => rfl); (case hg => rfl); (case hr => first | (go_simp; done) | (go_simp; rfl)); (case hp => exact (Reps.c2 (show Kd.M k50 _ _ _ mk9 [.int .i32 (-9), .int .i32 (-9)] from (k50_mkM _ _ _ mk9)) (Reps.none _ _)))
                              intro u78 wn ho hb hg hn
                              have n0_ := Aside0.mk (HST.out.write (i := 3) rfl ho hg (.inr hn))
                              clear ho hb hg hn HST
                              refine hK.out _ _ (HLD.out n0_.out) (fun hHeld => ?_)
                              clear hK K
                              refine norm_ (a' := ?_) ?_ ?_
                              rotate_left
                              · show Act.put _ (some 78) _ = _
                                simp only [Act.put, List.setIfInBounds_toArray, List.set_cons_zero, List.set_cons_succ, i64_w, i32_w]
                                rfl
                              exact norm_ (by first | (simp only [putAll, Act.put, List.setIfInBounds_toArray, List.set_cons_zero, List.set_cons_succ]; done) | (simp only [putAll, Act.put, List.setIfInBounds_toArray, List.set_cons_zero, List.set_cons_succ]; rfl)) (hJ2_10 (u78, u86) _ ⟨hHeld, n0_.out⟩)
                            · skip
                              refine Kd.R_lit_step k50 0 50 ?hg (N := 82) ?hd (xs := [mk9]) (inner := [.int .i32 (-9), .int .i32 (-9)]) (ok := fun _ => True) (okp := fun _ => True) ?hr ?hp (fun _ hk => hk) trivial (Below.refl 0 _) (Nat.zero_le _) (by simp) ?_; (case hd => rfl); (case hg => rfl); (case hr => first | (go_simp; done) | (go_simp; rfl)); (case hp => exact (Reps.c2 (show Kd.M k50 _ _ _ mk9 [.int .i32 (-9), .int .i32 (-9)] from (k50_mkM _ _ _ mk9)) (Reps.none _ _)))
                              intro u82 wn ho hb hg hn
                              have n0_ := Aside0.mk (HST.out.write (i := 4) rfl ho hg (.inr hn))
                              clear ho hb hg hn HST
                              refine hK.out _ _ (HLD.out n0_.out) (fun hHeld => ?_)
                              clear hK K
                              refine norm_ (a' := ?_) ?_ ?_
                              rotate_left
                              · show Act.put _ (some 82) _ = _
                                simp only [Act.put, List.setIfInBounds_toArray, List.set_cons_zero, List.set_cons_succ, i64_w, i32_w]
                                rfl
                              exact norm_ (by first | (simp only [putAll, Act.put, List.setIfInBounds_toArray, List.set_cons_zero, List.set_cons_succ]; done) | (simp only [putAll, Act.put, List.setIfInBounds_toArray, List.set_cons_zero, List.set_cons_succ]; rfl)) (hJ6_10 (u82, u86) _ ⟨hHeld, n0_.out⟩)
                        · skip
                          clear HST hHeld
                          rintro u82 ws ⟨hHeld, hst_⟩
                          have HST := Aside0.mk hst_
                          clear hst_
                          refine norm_ (a' := ?_) ?_ ?_
                          rotate_left
                          · simp only [putAll, Act.put, List.setIfInBounds_toArray, List.set_cons_zero, List.set_cons_succ]
                            rfl
                          refine two_ (i := 2) (j := 10) (Ni := some 78) (Nj := some 86) #[true, true, true, false, true, true, true, false, true, true, false, false, false, false, false] #[true, true, false, false, true, true, true, false, true, true, true, false, false, false, false] rfl rfl rfl rfl (two_of HT_.out (by kernel_rfl)) (by decide) (by decide) (fun K hK => ?_) (fun K hK => ?_)
                          · skip
                            refine Kd.R_lit_step k50 0 50 ?hg (N := 78) ?hd (xs := [mk9]) (inner := [.int .i32 (-9), .int .i32 (-9)]) (ok := fun _ => True) (okp := fun _ => True) ?hr ?hp (fun _ hk => hk) trivial (Below.refl 0 _) (Nat.zero_le _) (by simp) ?_; (case hd => rfl); (case hg => rfl); (case hr => first | (go_simp; done) | (go_simp; rfl)); (case hp => exact (Reps.c2 (show Kd.M k50 _ _ _ mk9 [.int .i32 (-9), .int .i32 (-9)] from (k50_mkM _ _ _ mk9)) (Reps.none _ _)))
                            intro u78 wn ho hb hg hn
                            have n0_ := Aside0.mk (HST.out.write (i := 3) rfl ho hg (.inr hn))
                            clear ho hb hg hn HST
                            refine hK.out _ _ (HLD.out n0_.out) (fun hHeld => ?_)
                            clear hK K
                            refine norm_ (a' := ?_) ?_ ?_
                            rotate_left
                            · show Act.put _ (some 78) _ = _
                              simp only [Act.put, List.setIfInBounds_toArray, List.set_cons_zero, List.set_cons_succ, i64_w, i32_w]
                              rfl
                            exact norm_ (by first | (simp only [putAll, Act.put, List.setIfInBounds_toArray, List.set_cons_zero, List.set_cons_succ]; done) | (simp only [putAll, Act.put, List.setIfInBounds_toArray, List.set_cons_zero, List.set_cons_succ]; rfl)) (hJ2_6 (u78, u82) _ ⟨hHeld, n0_.out⟩)
                          · skip
                            refine Kd.R_lit_step k50 0 50 ?hg (N := 86) ?hd (xs := [mk9]) (inner := [.int .i32 (-9), .int .i32 (-9)]) (ok := fun _ => True) (okp := fun _ => True) ?hr ?hp (fun _ hk => hk) trivial (Below.refl 0 _) (Nat.zero_le _) (by simp) ?_; (case hd => rfl); (case hg => rfl); (case hr => first | (go_simp; done) | (go_simp; rfl)); (case hp => exact (Reps.c2 (show Kd.M k50 _ _ _ mk9 [.int .i32 (-9), .int .i32 (-9)] from (k50_mkM _ _ _ mk9)) (Reps.none _ _)))
                            intro u86 wn ho hb hg hn
                            have n0_ := Aside0.mk (HST.out.write (i := 5) rfl ho hg (.inr hn))
                            clear ho hb hg hn HST
                            refine hK.out _ _ (HLD.out n0_.out) (fun hHeld => ?_)
                            clear hK K
                            refine norm_ (a' := ?_) ?_ ?_
                            rotate_left
                            · show Act.put _ (some 86) _ = _
                              simp only [Act.put, List.setIfInBounds_toArray, List.set_cons_zero, List.set_cons_succ, i64_w, i32_w]
                              rfl
                            exact norm_ (by first | (simp only [putAll, Act.put, List.setIfInBounds_toArray, List.set_cons_zero, List.set_cons_succ]; done) | (simp only [putAll, Act.put, List.setIfInBounds_toArray, List.set_cons_zero, List.set_cons_succ]; rfl)) (hJ6_10 (u82, u86) _ ⟨hHeld, n0_.out⟩)
                      · skip
                        clear HST hHeld
                        rintro u78 ws ⟨hHeld, hst_⟩
                        have HST := Aside0.mk hst_
                        clear hst_
                        obtain ⟨Au78, cu78, eu78⟩ := Kd.R_slice (HST.out.rows 3 _ _ rfl)
                        subst eu78
                        refine norm_ (a' := ?_) ?_ ?_
                        rotate_left
                        · simp only [putAll, Act.put, List.setIfInBounds_toArray, List.set_cons_zero, List.set_cons_succ]
                          rfl
                        refine three_ (i := 3) (j := 6) (k := 10) (Ni := some 79) (Nj := some 82) (Nk := some 86) #[true, true, true, true, true, true, false, false, true, true, false, false, false, false, false] #[true, true, true, false, true, true, true, false, true, true, false, false, false, false, false] #[true, true, true, false, true, true, false, false, true, true, true, false, false, false, false] rfl rfl rfl rfl rfl rfl (three_of HT_.out (by kernel_rfl)) (by decide) (by decide) (by decide) (fun K hK => ?_) (fun K hK => ?_) (fun K hK => ?_)
                        · skip
                          refine Kd.R_append_rows_step k50 (w0 := ws) 0 (by rfl) (.tmp 76) (.tmp 78) 22 50 (.agg #[(.int .i32 0), (.int .i32 0)]) 8 rfl Try.underlying22 info50 rfl (by decide) (by omega) (.slice Ax x.length cx) x [mk9] _ _ _ (fun _ => True) (fun _ => False) rfl rfl (HST.out.rows 0 _ _ rfl) (Kd.R_reads' (HST.out.rows 3 _ _ rfl)).2.2 (fun _ _ h => h) (fun _ h => h.elim) (fun _ _ => trivial) (Below.refl 0 _) (Nat.zero_le _) (by have := lx.out; simp only [List.length_cons, List.length_nil]; omega) ?_
                          intro u79 wn ho hb hg hat
                          rw [Ex.out] at ho
                          have n0_ := Aside0.mk (HST.out.write (i := 0) rfl ho hg hat)
                          clear ho hb hg hat HST
                          refine hK.out _ _ (HLD.out n0_.out) (fun hHeld => ?_)
                          clear hK K
                          refine norm_ (a' := ?_) ?_ ?_
                          rotate_left
                          · show Act.put _ (some 79) _ = _
                            simp only [Act.put, List.setIfInBounds_toArray, List.set_cons_zero, List.set_cons_succ, i64_w, i32_w]
                            rfl
                          exact norm_ (by first | (simp only [putAll, Act.put, List.setIfInBounds_toArray, List.set_cons_zero, List.set_cons_succ]; done) | (simp only [putAll, Act.put, List.setIfInBounds_toArray, List.set_cons_zero, List.set_cons_succ]; rfl)) (hJ2_3 ((.slice Au78 [mk9].length cu78), u79) _ ⟨hHeld, n0_.out⟩)
                        · skip
                          refine Kd.R_lit_step k50 0 50 ?hg (N := 82) ?hd (xs := [mk9]) (inner := [.int .i32 (-9), .int .i32 (-9)]) (ok := fun _ => True) (okp := fun _ => True) ?hr ?hp (fun _ hk => hk) trivial (Below.refl 0 _) (Nat.zero_le _) (by simp) ?_; (case hd => rfl); (case hg => rfl); (case hr => first | (go_simp; done) | (go_simp; rfl)); (case hp => exact (Reps.c2 (show Kd.M k50 _ _ _ mk9 [.int .i32 (-9), .int .i32 (-9)] from (k50_mkM _ _ _ mk9)) (Reps.none _ _)))
                          intro u82 wn ho hb hg hn
                          have n0_ := Aside0.mk (HST.out.write (i := 4) rfl ho hg (.inr hn))
                          clear ho hb hg hn HST
                          refine hK.out _ _ (HLD.out n0_.out) (fun hHeld => ?_)
                          clear hK K
                          refine norm_ (a' := ?_) ?_ ?_
                          rotate_left
                          · show Act.put _ (some 82) _ = _
                            simp only [Act.put, List.setIfInBounds_toArray, List.set_cons_zero, List.set_cons_succ, i64_w, i32_w]
                            rfl
                          exact norm_ (by first | (simp only [putAll, Act.put, List.setIfInBounds_toArray, List.set_cons_zero, List.set_cons_succ]; done) | (simp only [putAll, Act.put, List.setIfInBounds_toArray, List.set_cons_zero, List.set_cons_succ]; rfl)) (hJ2_6 ((.slice Au78 [mk9].length cu78), u82) _ ⟨hHeld, n0_.out⟩)
                        · skip
                          refine Kd.R_lit_step k50 0 50 ?hg (N := 86) ?hd (xs := [mk9]) (inner := [.int .i32 (-9), .int .i32 (-9)]) (ok := fun _ => True) (okp := fun _ => True) ?hr ?hp (fun _ hk => hk) trivial (Below.refl 0 _) (Nat.zero_le _) (by simp) ?_; (case hd => rfl); (case hg => rfl); (case hr => first | (go_simp; done) | (go_simp; rfl)); (case hp => exact (Reps.c2 (show Kd.M k50 _ _ _ mk9 [.int .i32 (-9), .int .i32 (-9)] from (k50_mkM _ _ _ mk9)) (Reps.none _ _)))
                          intro u86 wn ho hb hg hn
                          have n0_ := Aside0.mk (HST.out.write (i := 5) rfl ho hg (.inr hn))
                          clear ho hb hg hn HST
                          refine hK.out _ _ (HLD.out n0_.out) (fun hHeld => ?_)
                          clear hK K
                          refine norm_ (a' := ?_) ?_ ?_
                          rotate_left
                          · show Act.put _ (some 86) _ = _
                            simp only [Act.put, List.setIfInBounds_toArray, List.set_cons_zero, List.set_cons_succ, i64_w, i32_w]
                            rfl
                          exact norm_ (by first | (simp only [putAll, Act.put, List.setIfInBounds_toArray, List.set_cons_zero, List.set_cons_succ]; done) | (simp only [putAll, Act.put, List.setIfInBounds_toArray, List.set_cons_zero, List.set_cons_succ]; rfl)) (hJ2_10 ((.slice Au78 [mk9].length cu78), u86) _ ⟨hHeld, n0_.out⟩)
                    · skip
                      clear HST hHeld
                      rintro ⟨u82, u86⟩ ws ⟨hHeld, hst_⟩
                      have HST := Aside0.mk hst_
                      clear hst_
                      refine norm_ (a' := ?_) ?_ ?_
                      rotate_left
                      · simp only [putAll, Act.put, List.setIfInBounds_toArray, List.set_cons_zero, List.set_cons_succ]
                        rfl
                      refine one_ (i := 2) (N := some 78) #[true, true, true, false, true, true, true, false, true, true, true, false, false, false, false] rfl rfl (one_of HT_.out (by kernel_rfl)) (by decide) (fun K hK => ?_)
                      refine Kd.R_lit_step k50 0 50 ?hg (N := 78) ?hd (xs := [mk9]) (inner := [.int .i32 (-9), .int .i32 (-9)]) (ok := fun _ => True) (okp := fun _ => True) ?hr ?hp (fun _ hk => hk) trivial (Below.refl 0 _) (Nat.zero_le _) (by simp) ?_; (case hd => rfl); (case hg => rfl); (case hr => first | (go_simp; done) | (go_simp; rfl)); (case hp => exact (Reps.c2 (show Kd.M k50 _ _ _ mk9 [.int .i32 (-9), .int .i32 (-9)] from (k50_mkM _ _ _ mk9)) (Reps.none _ _)))
                      intro u78 wn ho hb hg hn
                      have n0_ := Aside0.mk (HST.out.write (i := 3) rfl ho hg (.inr hn))
                      clear ho hb hg hn HST
                      refine hK.out _ _ (HLD.out n0_.out) (fun hHeld => ?_)
                      clear hK K
                      refine norm_ (a' := ?_) ?_ ?_
                      rotate_left
                      · show Act.put _ (some 78) _ = _
                        simp only [Act.put, List.setIfInBounds_toArray, List.set_cons_zero, List.set_cons_succ, i64_w, i32_w]
                        rfl
                      exact norm_ (by first | (simp only [putAll, Act.put, List.setIfInBounds_toArray, List.set_cons_zero, List.set_cons_succ]; done) | (simp only [putAll, Act.put, List.setIfInBounds_toArray, List.set_cons_zero, List.set_cons_succ]; rfl)) (hJ2_6_10 (u78, u82, u86) _ ⟨hHeld, n0_.out⟩)
                  · skip
                    clear HST hHeld
                    rintro ⟨u78, u86⟩ ws ⟨hHeld, hst_⟩
                    have HST := Aside0.mk hst_
                    clear hst_
                    obtain ⟨Au78, cu78, eu78⟩ := Kd.R_slice (HST.out.rows 3 _ _ rfl)
                    subst eu78
                    refine norm_ (a' := ?_) ?_ ?_
                    rotate_left
                    · simp only [putAll, Act.put, List.setIfInBounds_toArray, List.set_cons_zero, List.set_cons_succ]
                      rfl
                    refine two_ (i := 3) (j := 6) (Ni := some 79) (Nj := some 82) #[true, true, true, true, true, true, false, false, true, true, true, false, false, false, false] #[true, true, true, false, true, true, true, false, true, true, true, false, false, false, false] rfl rfl rfl rfl (two_of HT_.out (by kernel_rfl)) (by decide) (by decide) (fun K hK => ?_) (fun K hK => ?_)
                    · skip
                      refine Kd.R_append_rows_step k50 (w0 := ws) 0 (by rfl) (.tmp 76) (.tmp 78) 22 50 (.agg #[(.int .i32 0), (.int .i32 0)]) 8 rfl Try.underlying22 info50 rfl (by decide) (by omega) (.slice Ax x.length cx) x [mk9] _ _ _ (fun _ => True) (fun _ => False) rfl rfl (HST.out.rows 0 _ _ rfl) (Kd.R_reads' (HST.out.rows 3 _ _ rfl)).2.2 (fun _ _ h => h) (fun _ h => h.elim) (fun _ _ => trivial) (Below.refl 0 _) (Nat.zero_le _) (by have := lx.out; simp only [List.length_cons, List.length_nil]; omega) ?_
                      intro u79 wn ho hb hg hat
                      rw [Ex.out] at ho
                      have n0_ := Aside0.mk (HST.out.write (i := 0) rfl ho hg hat)
                      clear ho hb hg hat HST
                      refine hK.out _ _ (HLD.out n0_.out) (fun hHeld => ?_)
                      clear hK K
                      refine norm_ (a' := ?_) ?_ ?_
                      rotate_left
                      · show Act.put _ (some 79) _ = _
                        simp only [Act.put, List.setIfInBounds_toArray, List.set_cons_zero, List.set_cons_succ, i64_w, i32_w]
                        rfl
                      exact norm_ (by first | (simp only [putAll, Act.put, List.setIfInBounds_toArray, List.set_cons_zero, List.set_cons_succ]; done) | (simp only [putAll, Act.put, List.setIfInBounds_toArray, List.set_cons_zero, List.set_cons_succ]; rfl)) (hJ2_3_10 ((.slice Au78 [mk9].length cu78), u79, u86) _ ⟨hHeld, n0_.out⟩)
                    · skip
                      refine Kd.R_lit_step k50 0 50 ?hg (N := 82) ?hd (xs := [mk9]) (inner := [.int .i32 (-9), .int .i32 (-9)]) (ok := fun _ => True) (okp := fun _ => True) ?hr ?hp (fun _ hk => hk) trivial (Below.refl 0 _) (Nat.zero_le _) (by simp) ?_; (case hd => rfl); (case hg => rfl); (case hr => first | (go_simp; done) | (go_simp; rfl)); (case hp => exact (Reps.c2 (show Kd.M k50 _ _ _ mk9 [.int .i32 (-9), .int .i32 (-9)] from (k50_mkM _ _ _ mk9)) (Reps.none _ _)))
                      intro u82 wn ho hb hg hn
                      have n0_ := Aside0.mk (HST.out.write (i := 4) rfl ho hg (.inr hn))
                      clear ho hb hg hn HST
                      refine hK.out _ _ (HLD.out n0_.out) (fun hHeld => ?_)
                      clear hK K
                      refine norm_ (a' := ?_) ?_ ?_
                      rotate_left
                      · show Act.put _ (some 82) _ = _
                        simp only [Act.put, List.setIfInBounds_toArray, List.set_cons_zero, List.set_cons_succ, i64_w, i32_w]
                        rfl
                      exact norm_ (by first | (simp only [putAll, Act.put, List.setIfInBounds_toArray, List.set_cons_zero, List.set_cons_succ]; done) | (simp only [putAll, Act.put, List.setIfInBounds_toArray, List.set_cons_zero, List.set_cons_succ]; rfl)) (hJ2_6_10 ((.slice Au78 [mk9].length cu78), u82, u86) _ ⟨hHeld, n0_.out⟩)
                · skip
                  clear HST hHeld
                  rintro ⟨u78, u82⟩ ws ⟨hHeld, hst_⟩
                  have HST := Aside0.mk hst_
                  clear hst_
                  obtain ⟨Au78, cu78, eu78⟩ := Kd.R_slice (HST.out.rows 3 _ _ rfl)
                  subst eu78
                  refine norm_ (a' := ?_) ?_ ?_
                  rotate_left
                  · simp only [putAll, Act.put, List.setIfInBounds_toArray, List.set_cons_zero, List.set_cons_succ]
                    rfl
                  refine two_ (i := 3) (j := 10) (Ni := some 79) (Nj := some 86) #[true, true, true, true, true, true, true, false, true, true, false, false, false, false, false] #[true, true, true, false, true, true, true, false, true, true, true, false, false, false, false] rfl rfl rfl rfl (two_of HT_.out (by kernel_rfl)) (by decide) (by decide) (fun K hK => ?_) (fun K hK => ?_)
                  · skip
                    refine Kd.R_append_rows_step k50 (w0 := ws) 0 (by rfl) (.tmp 76) (.tmp 78) 22 50 (.agg #[(.int .i32 0), (.int .i32 0)]) 8 rfl Try.underlying22 info50 rfl (by decide) (by omega) (.slice Ax x.length cx) x [mk9] _ _ _ (fun _ => True) (fun _ => False) rfl rfl (HST.out.rows 0 _ _ rfl) (Kd.R_reads' (HST.out.rows 3 _ _ rfl)).2.2 (fun _ _ h => h) (fun _ h => h.elim) (fun _ _ => trivial) (Below.refl 0 _) (Nat.zero_le _) (by have := lx.out; simp only [List.length_cons, List.length_nil]; omega) ?_
                    intro u79 wn ho hb hg hat
                    rw [Ex.out] at ho
                    have n0_ := Aside0.mk (HST.out.write (i := 0) rfl ho hg hat)
                    clear ho hb hg hat HST
                    refine hK.out _ _ (HLD.out n0_.out) (fun hHeld => ?_)
                    clear hK K
                    refine norm_ (a' := ?_) ?_ ?_
                    rotate_left
                    · show Act.put _ (some 79) _ = _
                      simp only [Act.put, List.setIfInBounds_toArray, List.set_cons_zero, List.set_cons_succ, i64_w, i32_w]
                      rfl
                    exact norm_ (by first | (simp only [putAll, Act.put, List.setIfInBounds_toArray, List.set_cons_zero, List.set_cons_succ]; done) | (simp only [putAll, Act.put, List.setIfInBounds_toArray, List.set_cons_zero, List.set_cons_succ]; rfl)) (hJ2_3_6 ((.slice Au78 [mk9].length cu78), u79, u82) _ ⟨hHeld, n0_.out⟩)
                  · skip
                    refine Kd.R_lit_step k50 0 50 ?hg (N := 86) ?hd (xs := [mk9]) (inner := [.int .i32 (-9), .int .i32 (-9)]) (ok := fun _ => True) (okp := fun _ => True) ?hr ?hp (fun _ hk => hk) trivial (Below.refl 0 _) (Nat.zero_le _) (by simp) ?_; (case hd => rfl); (case hg => rfl); (case hr => first | (go_simp; done) | (go_simp; rfl)); (case hp => exact (Reps.c2 (show Kd.M k50 _ _ _ mk9 [.int .i32 (-9), .int .i32 (-9)] from (k50_mkM _ _ _ mk9)) (Reps.none _ _)))
                    intro u86 wn ho hb hg hn
                    have n0_ := Aside0.mk (HST.out.write (i := 5) rfl ho hg (.inr hn))
                    clear ho hb hg hn HST
                    refine hK.out _ _ (HLD.out n0_.out) (fun hHeld => ?_)
                    clear hK K
                    refine norm_ (a' := ?_) ?_ ?_
                    rotate_left
                    · show Act.put _ (some 86) _ = _
                      simp only [Act.put, List.setIfInBounds_toArray, List.set_cons_zero, List.set_cons_succ, i64_w, i32_w]
                      rfl
                    exact norm_ (by first | (simp only [putAll, Act.put, List.setIfInBounds_toArray, List.set_cons_zero, List.set_cons_succ]; done) | (simp only [putAll, Act.put, List.setIfInBounds_toArray, List.set_cons_zero, List.set_cons_succ]; rfl)) (hJ2_6_10 ((.slice Au78 [mk9].length cu78), u82, u86) _ ⟨hHeld, n0_.out⟩)
              · skip
                clear HST hHeld
                rintro ⟨u78, u79⟩ ws ⟨hHeld, hst_⟩
                have HST := Aside0.mk hst_
                clear hst_
                refine norm_ (a' := ?_) ?_ ?_
                rotate_left
                · simp only [putAll, Act.put, List.setIfInBounds_toArray, List.set_cons_zero, List.set_cons_succ]
                  rfl
                refine two_ (i := 6) (j := 10) (Ni := some 82) (Nj := some 86) #[true, true, true, true, true, true, true, false, true, true, false, false, false, false, false] #[true, true, true, true, true, true, false, false, true, true, true, false, false, false, false] rfl rfl rfl rfl (two_of HT_.out (by kernel_rfl)) (by decide) (by decide) (fun K hK => ?_) (fun K hK => ?_)
                · skip
                  refine Kd.R_lit_step k50 0 50 ?hg (N := 82) ?hd (xs := [mk9]) (inner := [.int .i32 (-9), .int .i32 (-9)]) (ok := fun _ => True) (okp := fun _ => True) ?hr ?hp (fun _ hk => hk) trivial (Below.refl 0 _) (Nat.zero_le _) (by simp) ?_; (case hd => rfl); (case hg => rfl); (case hr => first | (go_simp; done) | (go_simp; rfl)); (case hp => exact (Reps.c2 (show Kd.M k50 _ _ _ mk9 [.int .i32 (-9), .int .i32 (-9)] from (k50_mkM _ _ _ mk9)) (Reps.none _ _)))
                  intro u82 wn ho hb hg hn
                  have n0_ := Aside0.mk (HST.out.write (i := 4) rfl ho hg (.inr hn))
                  clear ho hb hg hn HST
                  refine hK.out _ _ (HLD.out n0_.out) (fun hHeld => ?_)
                  clear hK K
                  refine norm_ (a' := ?_) ?_ ?_
                  rotate_left
                  · show Act.put _ (some 82) _ = _
                    simp only [Act.put, List.setIfInBounds_toArray, List.set_cons_zero, List.set_cons_succ, i64_w, i32_w]
                    rfl
                  exact norm_ (by first | (simp only [putAll, Act.put, List.setIfInBounds_toArray, List.set_cons_zero, List.set_cons_succ]; done) | (simp only [putAll, Act.put, List.setIfInBounds_toArray, List.set_cons_zero, List.set_cons_succ]; rfl)) (hJ2_3_6 (u78, u79, u82) _ ⟨hHeld, n0_.out⟩)
                · skip
                  refine Kd.R_lit_step k50 0 50 ?hg (N := 86) ?hd (xs := [mk9]) (inner := [.int .i32 (-9), .int .i32 (-9)]) (ok := fun _ => True) (okp := fun _ => True) ?hr ?hp (fun _ hk => hk) trivial (Below.refl 0 _) (Nat.zero_le _) (by simp) ?_; (case hd => rfl); (case hg => rfl); (case hr => first | (go_simp; done) | (go_simp; rfl)); (case hp => exact (Reps.c2 (show Kd.M k50 _ _ _ mk9 [.int .i32 (-9), .int .i32 (-9)] from (k50_mkM _ _ _ mk9)) (Reps.none _ _)))
                  intro u86 wn ho hb hg hn
                  have n0_ := Aside0.mk (HST.out.write (i := 5) rfl ho hg (.inr hn))
                  clear ho hb hg hn HST
                  refine hK.out _ _ (HLD.out n0_.out) (fun hHeld => ?_)
                  clear hK K
                  refine norm_ (a' := ?_) ?_ ?_
                  rotate_left
                  · show Act.put _ (some 86) _ = _
                    simp only [Act.put, List.setIfInBounds_toArray, List.set_cons_zero, List.set_cons_succ, i64_w, i32_w]
                    rfl
                  exact norm_ (by first | (simp only [putAll, Act.put, List.setIfInBounds_toArray, List.set_cons_zero, List.set_cons_succ]; done) | (simp only [putAll, Act.put, List.setIfInBounds_toArray, List.set_cons_zero, List.set_cons_succ]; rfl)) (hJ2_3_10 (u78, u79, u86) _ ⟨hHeld, n0_.out⟩)
            · skip
              clear HST hHeld
              rintro ⟨u78, u82, u86⟩ ws ⟨hHeld, hst_⟩
              have HST := Aside0.mk hst_
              clear hst_
              obtain ⟨Au78, cu78, eu78⟩ := Kd.R_slice (HST.out.rows 3 _ _ rfl)
              subst eu78
              refine norm_ (a' := ?_) ?_ ?_
              rotate_left
              · simp only [putAll, Act.put, List.setIfInBounds_toArray, List.set_cons_zero, List.set_cons_succ]
                rfl
              refine one_ (i := 3) (N := some 79) #[true, true, true, true, true, true, true, false, true, true, true, false, false, false, false] rfl rfl (one_of HT_.out (by kernel_rfl)) (by decide) (fun K hK => ?_)
              refine Kd.R_append_rows_step k50 (w0 := ws) 0 (by rfl) (.tmp 76) (.tmp 78) 22 50 (.agg #[(.int .i32 0), (.int .i32 0)]) 8 rfl Try.underlying22 info50 rfl (by decide) (by omega) (.slice Ax x.length cx) x [mk9] _ _ _ (fun _ => True) (fun _ => False) rfl rfl (HST.out.rows 0 _ _ rfl) (Kd.R_reads' (HST.out.rows 3 _ _ rfl)).2.2 (fun _ _ h => h) (fun _ h => h.elim) (fun _ _ => trivial) (Below.refl 0 _) (Nat.zero_le _) (by have := lx.out; simp only [List.length_cons, List.length_nil]; omega) ?_
              intro u79 wn ho hb hg hat
              rw [Ex.out] at ho
              have n0_ := Aside0.mk (HST.out.write (i := 0) rfl ho hg hat)
              clear ho hb hg hat HST
              refine hK.out _ _ (HLD.out n0_.out) (fun hHeld => ?_)
              clear hK K
              refine norm_ (a' := ?_) ?_ ?_
              rotate_left
              · show Act.put _ (some 79) _ = _
                simp only [Act.put, List.setIfInBounds_toArray, List.set_cons_zero, List.set_cons_succ, i64_w, i32_w]
                rfl
              exact norm_ (by first | (simp only [putAll, Act.put, List.setIfInBounds_toArray, List.set_cons_zero, List.set_cons_succ]; done) | (simp only [putAll, Act.put, List.setIfInBounds_toArray, List.set_cons_zero, List.set_cons_succ]; rfl)) (hJ2_3_6_10 ((.slice Au78 [mk9].length cu78), u79, u82, u86) _ ⟨hHeld, n0_.out⟩)
          · skip
            clear HST hHeld
            rintro ⟨u78, u79, u86⟩ ws ⟨hHeld, hst_⟩
            have HST := Aside0.mk hst_
            clear hst_
            refine norm_ (a' := ?_) ?_ ?_
            rotate_left
            · simp only [putAll, Act.put, List.setIfInBounds_toArray, List.set_cons_zero, List.set_cons_succ]
              rfl
            refine one_ (i := 6) (N := some 82) #[true, true, true, true, true, true, true, false, true, true, true, false, false, false, false] rfl rfl (one_of HT_.out (by kernel_rfl)) (by decide) (fun K hK => ?_)
            refine Kd.R_lit_step k50 0 50 ?hg (N := 82) ?hd (xs := [mk9]) (inner := [.int .i32 (-9), .int .i32 (-9)]) (ok := fun _ => True) (okp := fun _ => True) ?hr ?hp (fun _ hk => hk) trivial (Below.refl 0 _) (Nat.zero_le _) (by simp) ?_; (case hd => rfl); (case hg => rfl); (case hr => first | (go_simp; done) | (go_simp; rfl)); (case hp => exact (Reps.c2 (show Kd.M k50 _ _ _ mk9 [.int .i32 (-9), .int .i32 (-9)] from (k50_mkM _ _ _ mk9)) (Reps.none _ _)))
            intro u82 wn ho hb hg hn
            have n0_ := Aside0.mk (HST.out.write (i := 4) rfl ho hg (.inr hn))
            clear ho hb hg hn HST
            refine hK.out _ _ (HLD.out n0_.out) (fun hHeld => ?_)
            clear hK K
            refine norm_ (a' := ?_) ?_ ?_
            rotate_left
            · show Act.put _ (some 82) _ = _
              simp only [Act.put, List.setIfInBounds_toArray, List.set_cons_zero, List.set_cons_succ, i64_w, i32_w]
              rfl
            exact norm_ (by first | (simp only [putAll, Act.put, List.setIfInBounds_toArray, List.set_cons_zero, List.set_cons_succ]; done) | (simp only [putAll, Act.put, List.setIfInBounds_toArray, List.set_cons_zero, List.set_cons_succ]; rfl)) (hJ2_3_6_10 (u78, u79, u82, u86) _ ⟨hHeld, n0_.out⟩)
        · skip
          clear HST hHeld
          rintro ⟨u78, u79, u82⟩ ws ⟨hHeld, hst_⟩
          have HST := Aside0.mk hst_
          clear hst_
          obtain ⟨Au82, cu82, eu82⟩ := Kd.R_slice (HST.out.rows 4 _ _ rfl)
          subst eu82
          refine norm_ (a' := ?_) ?_ ?_
          rotate_left
          · simp only [putAll, Act.put, List.setIfInBounds_toArray, List.set_cons_zero, List.set_cons_succ]
            rfl
          refine two_ (i := 7) (j := 10) (Ni := some 83) (Nj := some 86) #[true, true, true, true, true, true, true, true, true, true, false, false, false, false, false] #[true, true, true, true, true, true, true, false, true, true, true, false, false, false, false] rfl rfl rfl rfl (two_of HT_.out (by kernel_rfl)) (by decide) (by decide) (fun K hK => ?_) (fun K hK => ?_)
          · skip
            refine Kd.R_append_rows_step k50 (w0 := ws) 0 (by rfl) (.tmp 80) (.tmp 82) 22 50 (.agg #[(.int .i32 0), (.int .i32 0)]) 8 rfl Try.underlying22 info50 rfl (by decide) (by omega) (.slice Ap p.length cp) p [mk9] _ _ _ (fun _ => True) (fun _ => False) rfl rfl (HST.out.rows 1 _ _ rfl) (Kd.R_reads' (HST.out.rows 4 _ _ rfl)).2.2 (fun _ _ h => h) (fun _ h => h.elim) (fun _ _ => trivial) (Below.refl 0 _) (Nat.zero_le _) (by have := lp.out; simp only [List.length_cons, List.length_nil]; omega) ?_
            intro u83 wn ho hb hg hat
            rw [Ep.out] at ho
            have n0_ := Aside0.mk (HST.out.write (i := 1) rfl ho hg hat)
            clear ho hb hg hat HST
            refine hK.out _ _ (HLD.out n0_.out) (fun hHeld => ?_)
            clear hK K
            refine norm_ (a' := ?_) ?_ ?_
            rotate_left
            · show Act.put _ (some 83) _ = _
              simp only [Act.put, List.setIfInBounds_toArray, List.set_cons_zero, List.set_cons_succ, i64_w, i32_w]
              rfl
            exact norm_ (by first | (simp only [putAll, Act.put, List.setIfInBounds_toArray, List.set_cons_zero, List.set_cons_succ]; done) | (simp only [putAll, Act.put, List.setIfInBounds_toArray, List.set_cons_zero, List.set_cons_succ]; rfl)) (hJ2_3_6_7 (u78, u79, (.slice Au82 [mk9].length cu82), u83) _ ⟨hHeld, n0_.out⟩)
          · skip
            refine Kd.R_lit_step k50 0 50 ?hg (N := 86) ?hd (xs := [mk9]) (inner := [.int .i32 (-9), .int .i32 (-9)]) (ok := fun _ => True) (okp := fun _ => True) ?hr ?hp (fun _ hk => hk) trivial (Below.refl 0 _) (Nat.zero_le _) (by simp) ?_; (case hd => rfl); (case hg => rfl); (case hr => first | (go_simp; done) | (go_simp; rfl)); (case hp => exact (Reps.c2 (show Kd.M k50 _ _ _ mk9 [.int .i32 (-9), .int .i32 (-9)] from (k50_mkM _ _ _ mk9)) (Reps.none _ _)))
            intro u86 wn ho hb hg hn
            have n0_ := Aside0.mk (HST.out.write (i := 5) rfl ho hg (.inr hn))
            clear ho hb hg hn HST
            refine hK.out _ _ (HLD.out n0_.out) (fun hHeld => ?_)
            clear hK K
            refine norm_ (a' := ?_) ?_ ?_
            rotate_left
            · show Act.put _ (some 86) _ = _
              simp only [Act.put, List.setIfInBounds_toArray, List.set_cons_zero, List.set_cons_succ, i64_w, i32_w]
              rfl
            exact norm_ (by first | (simp only [putAll, Act.put, List.setIfInBounds_toArray, List.set_cons_zero, List.set_cons_succ]; done) | (simp only [putAll, Act.put, List.setIfInBounds_toArray, List.set_cons_zero, List.set_cons_succ]; rfl)) (hJ2_3_6_10 (u78, u79, (.slice Au82 [mk9].length cu82), u86) _ ⟨hHeld, n0_.out⟩)
      · skip
        clear HST hHeld
        rintro ⟨u78, u79, u82, u86⟩ ws ⟨hHeld, hst_⟩
        have HST := Aside0.mk hst_
        clear hst_
        obtain ⟨Au82, cu82, eu82⟩ := Kd.R_slice (HST.out.rows 4 _ _ rfl)
        subst eu82
        refine norm_ (a' := ?_) ?_ ?_
        rotate_left
        · simp only [putAll, Act.put, List.setIfInBounds_toArray, List.set_cons_zero, List.set_cons_succ]
          rfl
        refine one_ (i := 7) (N := some 83) #[true, true, true, true, true, true, true, true, true, true, true, false, false, false, false] rfl rfl (one_of HT_.out (by kernel_rfl)) (by decide) (fun K hK => ?_)
        refine Kd.R_append_rows_step k50 (w0 := ws) 0 (by rfl) (.tmp 80) (.tmp 82) 22 50 (.agg #[(.int .i32 0), (.int .i32 0)]) 8 rfl Try.underlying22 info50 rfl (by decide) (by omega) (.slice Ap p.length cp) p [mk9] _ _ _ (fun _ => True) (fun _ => False) rfl rfl (HST.out.rows 1 _ _ rfl) (Kd.R_reads' (HST.out.rows 4 _ _ rfl)).2.2 (fun _ _ h => h) (fun _ h => h.elim) (fun _ _ => trivial) (Below.refl 0 _) (Nat.zero_le _) (by have := lp.out; simp only [List.length_cons, List.length_nil]; omega) ?_
        intro u83 wn ho hb hg hat
        rw [Ep.out] at ho
        have n0_ := Aside0.mk (HST.out.write (i := 1) rfl ho hg hat)
        clear ho hb hg hat HST
        refine hK.out _ _ (HLD.out n0_.out) (fun hHeld => ?_)
        clear hK K
        refine norm_ (a' := ?_) ?_ ?_
        rotate_left
        · show Act.put _ (some 83) _ = _
          simp only [Act.put, List.setIfInBounds_toArray, List.set_cons_zero, List.set_cons_succ, i64_w, i32_w]
          rfl
        exact norm_ (by first | (simp only [putAll, Act.put, List.setIfInBounds_toArray, List.set_cons_zero, List.set_cons_succ]; done) | (simp only [putAll, Act.put, List.setIfInBounds_toArray, List.set_cons_zero, List.set_cons_succ]; rfl)) (hJ2_3_6_7_10 (u78, u79, (.slice Au82 [mk9].length cu82), u83, u86) _ ⟨hHeld, n0_.out⟩)
    · skip
      clear HST hHeld
      rintro ⟨u78, u79, u82, u83⟩ ws ⟨hHeld, hst_⟩
      have HST := Aside0.mk hst_
      clear hst_
      refine norm_ (a' := ?_) ?_ ?_
      rotate_left
      · simp only [putAll, Act.put, List.setIfInBounds_toArray, List.set_cons_zero, List.set_cons_succ]
        rfl
      refine one_ (i := 10) (N := some 86) #[true, true, true, true, true, true, true, true, true, true, true, false, false, false, false] rfl rfl (one_of HT_.out (by kernel_rfl)) (by decide) (fun K hK => ?_)
      refine Kd.R_lit_step k50 0 50 ?hg (N := 86) ?hd (xs := [mk9]) (inner := [.int .i32 (-9), .int .i32 (-9)]) (ok := fun _ => True) (okp := fun _ => True) ?hr ?hp (fun _ hk => hk) trivial (Below.refl 0 _) (Nat.zero_le _) (by simp) ?_; (case hd => rfl); (case hg => rfl); (case hr => first | (go_simp; done) | (go_simp; rfl)); (case hp => exact (Reps.c2 (show Kd.M k50 _ _ _ mk9 [.int .i32 (-9), .int .i32 (-9)] from (k50_mkM _ _ _ mk9)) (Reps.none _ _)))
      intro u86 wn ho hb hg hn
      have n0_ := Aside0.mk (HST.out.write (i := 5) rfl ho hg (.inr hn))
      clear ho hb hg hn HST
      refine hK.out _ _ (HLD.out n0_.out) (fun hHeld => ?_)
      clear hK K
      refine norm_ (a' := ?_) ?_ ?_
      rotate_left
      · show Act.put _ (some 86) _ = _
        simp only [Act.put, List.setIfInBounds_toArray, List.set_cons_zero, List.set_cons_succ, i64_w, i32_w]
        rfl
      exact norm_ (by first | (simp only [putAll, Act.put, List.setIfInBounds_toArray, List.set_cons_zero, List.set_cons_succ]; done) | (simp only [putAll, Act.put, List.setIfInBounds_toArray, List.set_cons_zero, List.set_cons_succ]; rfl)) (hJ2_3_6_7_10 (u78, u79, u82, u83, u86) _ ⟨hHeld, n0_.out⟩)
  · skip
    clear HST hHeld
    rintro ⟨u78, u79, u82, u83, u86⟩ ws ⟨hHeld, hst_⟩
    have HST := Aside0.mk hst_
    clear hst_
    obtain ⟨Au86, cu86, eu86⟩ := Kd.R_slice (HST.out.rows 5 _ _ rfl)
    subst eu86
    refine norm_ (a' := ?_) ?_ ?_
    rotate_left
    · simp only [putAll, Act.put, List.setIfInBounds_toArray, List.set_cons_zero, List.set_cons_succ]
      rfl
    refine one_ (i := 11) (N := some 87) #[true, true, true, true, true, true, true, true, true, true, true, true, false, false, false] rfl rfl (one_of HT_.out (by kernel_rfl)) (by decide) (fun K hK => ?_)
    refine Kd.R_append_rows_step k50 (w0 := ws) 0 (by rfl) (.tmp 84) (.tmp 86) 22 50 (.agg #[(.int .i32 0), (.int .i32 0)]) 8 rfl Try.underlying22 info50 rfl (by decide) (by omega) (.slice Av v.length cv) v [mk9] _ _ _ (fun _ => True) (fun _ => False) rfl rfl (HST.out.rows 2 _ _ rfl) (Kd.R_reads' (HST.out.rows 5 _ _ rfl)).2.2 (fun _ _ h => h) (fun _ h => h.elim) (fun _ _ => trivial) (Below.refl 0 _) (Nat.zero_le _) (by have := lv.out; simp only [List.length_cons, List.length_nil]; omega) ?_
    intro u87 wn ho hb hg hat
    rw [Ev'.out] at ho
    have n0_ := Aside0.mk (HST.out.write (i := 2) rfl ho hg hat)
    clear ho hb hg hat HST
    refine hK.out _ _ (HLD.out n0_.out) (fun hHeld => ?_)
    clear hK K
    refine norm_ (a' := ?_) ?_ ?_
    rotate_left
    · show Act.put _ (some 87) _ = _
      simp only [Act.put, List.setIfInBounds_toArray, List.set_cons_zero, List.set_cons_succ, i64_w, i32_w]
      rfl
    refine pure_ (i := 12) (N := some 7) (v := ?_) (a' := ?_) #[true, true, true, true, true, true, true, true, true, true, true, true, true, false, false] rfl rfl (any_of HT_.out (by kernel_rfl)) (fun _ _ _ h => h) (Or.inl ⟨by rfl, ?_⟩) ?_ ?_
    rotate_left
    · intro w'
      go_simp
      with_reducible rfl
    rotate_left
    · simp only [Act.put, List.setIfInBounds_toArray, List.set_cons_zero, List.set_cons_succ, i64_w, i32_w]
      rfl
    refine pure_ (i := 13) (N := some 14) (v := ?_) (a' := ?_) #[true, true, true, true, true, true, true, true, true, true, true, true, true, true, false] rfl rfl (any_of HT_.out (by kernel_rfl)) (fun _ _ _ h => h) (Or.inl ⟨by rfl, ?_⟩) ?_ ?_
    rotate_left
    · intro w'
      go_simp
      with_reducible rfl
    rotate_left
    · simp only [Act.put, List.setIfInBounds_toArray, List.set_cons_zero, List.set_cons_succ, i64_w, i32_w]
      rfl
    refine pure_ (i := 14) (N := some 17) (v := ?_) (a' := ?_) #[true, true, true, true, true, true, true, true, true, true, true, true, true, true, true] rfl rfl (any_of HT_.out (by kernel_rfl)) (fun _ _ _ h => h) (Or.inl ⟨by rfl, ?_⟩) ?_ ?_
    rotate_left
    · intro w'
      go_simp
      with_reducible rfl
    rotate_left
    · simp only [Act.put, List.setIfInBounds_toArray, List.set_cons_zero, List.set_cons_succ, i64_w, i32_w]
      rfl
    refine done_ (done_of HT_.out (by kernel_rfl)) ?_
    have HS0 := Aside0.mk n0_.out.three
    clear n0_ hHeld
    obtain ⟨Au79, cu79, eu79⟩ := Kd.R_slice (HS0.out.rows 0 _ _ rfl)
    subst eu79
    obtain ⟨Au83, cu83, eu83⟩ := Kd.R_slice (HS0.out.rows 1 _ _ rfl)
    subst eu83
    obtain ⟨Au87, cu87, eu87⟩ := Kd.R_slice (HS0.out.rows 2 _ _ rfl)
    subst eu87
    try go_wp2
    go_loopg [22] (x1.length + 1) (fun k v22 wr => ∃ i : Nat, i ≤ x1.length ∧ x1.length + 1 - i ≤ k ∧ v22 = .int .i64 (i : Int) ∧ Aside0 (∃ xs ys zs : List Sn, xs.length = x1.length ∧ St N bad wr [(.slice Au79 x1.length cu79, xs), (.slice Au83 p1.length cu83, ys), (.slice Au87 v1.length cu87, zs)]))
    case atStart => exact ⟨0, by omega, by omega, rfl, ⟨_, _, _, rfl, HS0.out⟩⟩
    case round =>
      obtain ⟨i, hi, hk, rfl, hO⟩ := hrel
      clear HS0
      by_cases hlt : i < x1.length
      · have hlt' : (i : Int) < (x1.length : Int) := by omega
        obtain ⟨xs, ys, zs, hxl, hS⟩ := hO.out
        obtain ⟨g, cells, rfl, _, _⟩ := R_head (hS.rows 0 (.slice Au79 x1.length cu79) xs rfl) (by omega)
        obtain ⟨hm0, hm1⟩ := HLD.out hS
        have HR := Aside0.mk (hS.rows 0 (.slice (some ⟨g, 0, none⟩) x1.length cu79) xs rfl)
        have HS := Aside0.mk hS
        have HXL := Aside0.mk hxl
        clear hO hS hxl
        go_wp2_with (first | ((with_reducible refine gate_store (t := 50) (p := 97) rfl ?_); refine store_PS (w0 := wr) 0 rfl rfl (.tmp 97) (.tmp 96) rfl i xs mk9 rfl rfl HR.out (by rw [HXL.out]; exact hlt) (Below.refl 0 _) ?_; intro w6_ hr6 hb6 hg6; have HS6 := Aside0.mk (HS.out.write (i := 0) rfl hr6 hg6 (.inl rfl)); clear hr6 hb6 hg6))
        go_roundg (gk - 1)
        case measure => omega
        case rel => exact ⟨i + 1, by omega, by omega, by rw [w64_succ i x1.length hlt (by have := Lx1.out; omega)], ⟨_, _, _, by rw [List.length_set]; exact HXL.out, HS6.out⟩⟩
      · have hlt' : ¬ (i : Int) < (x1.length : Int) := by omega
        obtain ⟨xs, ys, zs, hxl, hS⟩ := hO.out
        have HQ1 := Aside0.mk ((Kd.R_reads' (hS.rows 1 (.slice Au83 p1.length cu83) ys rfl)).1.symm)
        have HS1 := Aside0.mk hS
        clear hO hS hxl
        go_wp2
        go_loopg [23] (p1.length + 1) (fun k v23 wr => ∃ i : Nat, i ≤ p1.length ∧ p1.length + 1 - i ≤ k ∧ v23 = .int .i64 (i : Int) ∧ Aside0 (∃ xs ys zs : List Sn, ys.length = p1.length ∧ St N bad wr [(.slice Au79 x1.length cu79, xs), (.slice Au83 p1.length cu83, ys), (.slice Au87 v1.length cu87, zs)]))
        case atStart => exact ⟨0, by omega, by omega, rfl, ⟨_, _, _, HQ1.out, HS1.out⟩⟩
        case round =>
          obtain ⟨i, hi, hk, rfl, hO⟩ := hrel
          clear HS1
          by_cases hlt : i < p1.length
          · have hlt' : (i : Int) < (p1.length : Int) := by omega
            obtain ⟨xs, ys, zs, hxl, hS⟩ := hO.out
            obtain ⟨g, cells, rfl, _, _⟩ := R_head (hS.rows 1 (.slice Au83 p1.length cu83) ys rfl) (by omega)
            obtain ⟨hm0, hm1⟩ := HLD.out hS
            have HR := Aside0.mk (hS.rows 1 (.slice (some ⟨g, 0, none⟩) p1.length cu83) ys rfl)
            have HS := Aside0.mk hS
            have HXL := Aside0.mk hxl
            clear hO hS hxl
            go_wp2_with (first | ((with_reducible refine gate_store (t := 50) (p := 107) rfl ?_); refine store_PS (w0 := wr) 0 rfl rfl (.tmp 107) (.tmp 106) rfl i ys mk9 rfl rfl HR.out (by rw [HXL.out]; exact hlt) (Below.refl 0 _) ?_; intro w6_ hr6 hb6 hg6; have HS6 := Aside0.mk (HS.out.write (i := 1) rfl hr6 hg6 (.inl rfl)); clear hr6 hb6 hg6))
            go_roundg (gk - 1)
            case measure => omega
            case rel => exact ⟨i + 1, by omega, by omega, by rw [w64_succ i p1.length hlt (by have := Lp1.out; omega)], ⟨_, _, _, by rw [List.length_set]; exact HXL.out, HS6.out⟩⟩
          · have hlt' : ¬ (i : Int) < (p1.length : Int) := by omega
            obtain ⟨xs, ys, zs, hxl, hS⟩ := hO.out
            have HQ2 := Aside0.mk ((Kd.R_reads' (hS.rows 2 (.slice Au87 v1.length cu87) zs rfl)).1.symm)
            have HS2 := Aside0.mk hS
            clear hO hS hxl
            go_wp2
            go_loopg [24] (v1.length + 1) (fun k v24 wr => ∃ i : Nat, i ≤ v1.length ∧ v1.length + 1 - i ≤ k ∧ v24 = .int .i64 (i : Int) ∧ Aside0 (∃ xs ys zs : List Sn, zs.length = v1.length ∧ St N bad wr [(.slice Au79 x1.length cu79, xs), (.slice Au83 p1.length cu83, ys), (.slice Au87 v1.length cu87, zs)]))
            case atStart => exact ⟨0, by omega, by omega, rfl, ⟨_, _, _, HQ2.out, HS2.out⟩⟩
            case round =>
              obtain ⟨i, hi, hk, rfl, hO⟩ := hrel
              clear HS2
              by_cases hlt : i < v1.length
              · have hlt' : (i : Int) < (v1.length : Int) := by omega
                obtain ⟨xs, ys, zs, hxl, hS⟩ := hO.out
                obtain ⟨g, cells, rfl, _, _⟩ := R_head (hS.rows 2 (.slice Au87 v1.length cu87) zs rfl) (by omega)
                obtain ⟨hm0, hm1⟩ := HLD.out hS
                have HR := Aside0.mk (hS.rows 2 (.slice (some ⟨g, 0, none⟩) v1.length cu87) zs rfl)
                have HS := Aside0.mk hS
                have HXL := Aside0.mk hxl
                clear hO hS hxl
                go_wp2_with (first | ((with_reducible refine gate_store (t := 50) (p := 117) rfl ?_); refine store_PS (w0 := wr) 0 rfl rfl (.tmp 117) (.tmp 116) rfl i zs mk9 rfl rfl HR.out (by rw [HXL.out]; exact hlt) (Below.refl 0 _) ?_; intro w6_ hr6 hb6 hg6; have HS6 := Aside0.mk (HS.out.write (i := 2) rfl hr6 hg6 (.inl rfl)); clear hr6 hb6 hg6))
                go_roundg (gk - 1)
                case measure => omega
                case rel => exact ⟨i + 1, by omega, by omega, by rw [w64_succ i v1.length hlt (by have := Lv1.out; omega)], ⟨_, _, _, by rw [List.length_set]; exact HXL.out, HS6.out⟩⟩
              · have hlt' : ¬ (i : Int) < (v1.length : Int) := by omega
                obtain ⟨xs, ys, zs, hxl, hS⟩ := hO.out
                have HS3 := Aside0.mk hS
                clear hO hS hxl
                go_wp2_with fail
                have hS := HS3.out
                have hb6 : Below w6.heap.size w6 wr := (HB6.out.trans (hS.frame (by have := HSZ.out; omega) (fun k hk hbd => by have := HBD.out k hbd; have := HSZ.out; omega)))
                have hy := Zs.kept ((HL13.out N HNB.out).1.1.1.1.1.2) hS (fun k h1 h2 hbd => by have := HBD.out k hbd; have := HSZ.out; omega)
                have hz := Zs.kept ((HL13.out N HNB.out).1.1.1.1.2) hS (fun k h1 h2 hbd => by have := HBD.out k hbd; have := HSZ.out; omega)
                have h3 := Zs.kept ((HL13.out N HNB.out).1.2) hS (fun k h1 h2 hbd => by have := HBD.out k hbd; have := HSZ.out; omega)
                have h4 := Zs.kept ((HL13.out N HNB.out).2) hS (fun k h1 h2 hbd => by have := HBD.out k hbd; have := HSZ.out; omega)
                have HLE := Aside0.mk ((((HLS.out.step hb6).next (Below.refl _ _) (lat_P hy.inP)).next (Below.refl _ _) (lat_P hz.inP)).next (Below.refl _ _) (lat_Q h3.inQ) |>.next (Below.refl _ _) (lat_Q h4.inQ))
                clear hy hz h3 h4 hb6 hS HS3
                refine (c_awake _).mono ?_
                rintro e w1 ⟨rfl, hb⟩
                have HL1 := Aside0.mk (HLE.out.step hb)
                clear hb HLE
                go_wp2_with fail
                refine (c_alike (HL1.out.here.1.1.1.1.1.1.1.1.1.2) (HL1.out.here.1.1.1.1.1.2) ALa.out).mono ?_
                rintro e w2 ⟨rfl, hb⟩
                have HL2 := Aside0.mk (HL1.out.step hb)
                clear hb HL1
                go_wp2_with fail
                refine (c_alike (HL2.out.here.1.1.1.1.1.1.1.1.2) (HL2.out.here.1.1.1.1.2) ALb.out).mono ?_
                rintro e w3 ⟨rfl, hb⟩
                have HL3 := Aside0.mk (HL2.out.step hb)
                clear hb HL2
                go_wp2_with fail
                refine (c_alike (HL3.out.here.1.1.1.2) (HL3.out.here.1.2) ALy.out).mono ?_
                rintro e w4 ⟨rfl, hb⟩
                have HL4 := Aside0.mk (HL3.out.step hb)
                clear hb HL3
                go_wp2_with fail
                refine (c_alike (HL4.out.here.1.1.2) (HL4.out.here.2) ALz.out).mono ?_
                rintro e w5 ⟨rfl, hb⟩
                have HL5 := Aside0.mk (HL4.out.step hb)
                clear hb HL4
                go_wp2_with fail
                go_ret
                exact ⟨rfl, (HL5.out.here.1.1.1.1.1.1.1.1.1.1)⟩

theorem spanMem_calls (w : World) (Aa : Option Addr) (ca : Nat) (a : List Sn) (hA : Kd.C k50 w Aa a.length a) (hca : a.length ≤ ca) (_ : Fits a) (la : a.length ≤ 1048576) (Ab : Option Addr) (cb : Nat) (b : List Sn) (hB : Kd.C k50 w Ab b.length b) (hcb : b.length ≤ cb) (_ : Fits b) (lb : b.length ≤ 1048576) :
    Calls Try.prog 6 #[.slice Aa a.length ca, .slice Ab b.length cb] w (Yes w) := by
  have i1 := isQ_ev (a.map toR) (by rw [List.length_map]; omega)
  have i2 := isQ_ev (b.map toR) (by rw [List.length_map]; omega)
  rw [qrs_toR] at i1 i2
  cases ia : isB (prs a) with
  | false =>
    rw [ia] at i1
    exact mem_one ⟨hA, hca⟩ ⟨hB, hcb⟩ (by omega) (by omega) i1
  | true =>
    rw [ia] at i1
    cases ib : isB (prs b) with
    | false =>
      rw [ib] at i2
      exact mem_two ⟨hA, hca⟩ ⟨hB, hcb⟩ (by omega) (by omega) i1 i2
    | true =>
      rw [ib] at i2
      rcases other_ev a (by omega) with ⟨_, X, x1, x2, x3, x4⟩ | ⟨hbad, _⟩
      rotate_left
      · rw [ia] at hbad; cases hbad
      rcases minus_ev a b (by omega) with ⟨_, _, Z, z1, z2, z3, z4⟩ | ⟨hbad, _⟩
      rotate_left
      · rw [ia, ib] at hbad; cases hbad
      rcases cross_ev a b (by omega) with ⟨_, _, V, v1, v2, v3, v4⟩ | ⟨hbad, _⟩
      rotate_left
      · rw [ia, ib] at hbad; cases hbad
      rcases union_ev [a, b] (by simp) (fun l hl => by
        simp only [List.mem_cons, List.not_mem_nil, or_false] at hl
        rcases hl with rfl | rfl <;> assumption) with ⟨_, U, u1, u2, u3, u4⟩ | ⟨hbad, _⟩
      rotate_left
      · have : allIs [a, b] = (isB (prs a) && (isB (prs b) && true)) := rfl
        rw [this, ia, ib] at hbad; cases hbad
      have u5 : U.length ≤ a.length + b.length := by
        have h := u4.2
        simp only [List.map_cons, List.map_nil, List.sum_cons, List.sum_nil] at h
        omega
      have f1 := fitP_len U
      have f2 := fitP_len V
      have f3 := fitP_len Z
      have f4 := fitP_len X
      have g1 : (fitP U).1.length ≤ 4194304 := by omega
      have g2 : (fitP V).1.length ≤ 4194304 := by omega
      have g3 : (fitP Z).1.length ≤ 4194304 := by omega
      have g4 : (fitP X).1.length ≤ 4194304 := by omega
      have g5 : a.length ≤ 4194304 := by omega
      have g6 : b.length ≤ 4194304 := by omega
      exact mem_all ⟨hA, hca⟩ ⟨hB, hcb⟩ g5 g6 i1 i2 u1 v1 z1 (make_set ia) x1 g1 g2 g3 g5 g4

end Go.Proofs.Ytkpdccegamcppaa.PSpan
