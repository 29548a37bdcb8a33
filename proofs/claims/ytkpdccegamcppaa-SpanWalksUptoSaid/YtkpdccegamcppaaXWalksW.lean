/- SpanWalks: the law's call. -/
import Derived.Test.YtkpdccegamcppaaXIter
import Derived.Test.YtkpdccegamcppaaXAskD
import Derived.Test.YtkpdccegamcppaaXRow
import Derived.Sort.CutIn
import Derived.Sort.QuietIn
namespace Go.Proofs.Ytkpdccegamcppaa.PSpan
open Go.RowKit Go.Shelf Go.Proofs.YtkpdccegamcppaaW.PrintWords Go.Proofs.YtkpdccegamcppaaW.PrintLast Go.Proofs.YtkpdccegamcppaaW.PrintMore Go.Proofs.Ytkpdccegamcppaa.SpanP
set_option linter.unusedVariables false
set_option linter.unusedSimpArgs false

attribute [local go_sem] Oper.semAt_some
theorem run_store_func {P : Program} {w : World} {a : Addr} {m : Mode} (f : Fn) (x y : Array Value) : (store a (.func f x y) m).run P w = stored P w a (.func f x y) m := run_store P w a _ m rfl
attribute [local go_sem] run_store_func
theorem run_eql_func_nil {P : Program} {w : World} {t : TypeId} {ps rs : Array TypeId} {b : Bool} (h : P.underlying t = some (.func ps rs b)) (f : Fn) (x y : Array Value) : (binOp .eql t (.func f x y) .nilFunc).run P w = .ok (.bool false) w := by
  have h' : ∀ d : Nat, (Op.equalIn (d + 1) t (.func f x y) .nilFunc).run P w = .ok false w := fun d => by
    simp [Op.equalIn, run_underlying h]
  simp only [binOp]
  simp [Op.equal, Op.maxDepth, h' 9999]

/-- What is laid by now: the boxes of left and of the result, the list m. -/
structure WkSt (w W : World) (gL gR gM : Nat) (left : Int) (m : List Q) : Prop where
  below : Below w.heap.size w W
  bL : Boxed W gL 3 (.int .i64 left)
  bR : Boxed W gR 4 (.bool false)
  list : ∃ A c, Boxed W gM 23 (.slice A m.length c) ∧ InQ A c m W
theorem boxed_below {W W1 : World} {b : Nat} {t : TypeId} {v : Value} (h : Boxed W b t v) (hb : Below W.heap.size W W1) : Boxed W1 b t v := (hb.block b h.lt).trans h
theorem WkSt.step {w W W1 : World} {gL gR gM : Nat} {left : Int} {m : List Q} (h : WkSt w W gL gR gM left m) (hb : Below W.heap.size W W1) : WkSt w W1 gL gR gM left m := by
  obtain ⟨A, c, h1, h2⟩ := h.list
  exact ⟨h.below.trans (hb.mono h.below.size), boxed_below h.bL hb, boxed_below h.bR hb, A, c, boxed_below h1 hb, Kd.C_below h2.1 hb, h2.2⟩

/-- .. and the iterator, in a box. -/
structure WkF (w W : World) (gL gR gM gF B : Nat) (left : Int) (r : List Sn) : Prop where
  st : WkSt w W gL gR gM left (r.map toR)
  bF : Boxed W gF 35 (.func (.func 47) #[] #[.pointer (some ⟨B, 0, none⟩)])
  it : ∃ A c, W.cell? ⟨B, 0, none⟩ = some (.slice A r.length c) ∧ InP A c r W
theorem boxed_kq {S : Nat → Prop} {B : Nat} {W W1 : World} {b : Nat} {t : TypeId} {v : Value} (h : Boxed W b t v) (hk : Kq S B W W1) (hn : ¬ S b) : Boxed W1 b t v := hk.2 b _ h rfl hn
/-- What lies stays while a box is written that was laid later. -/
theorem WkF.later {w W W1 : World} {gL gR gM gF B : Nat} {left : Int} {r : List Sn} (h : WkF w W gL gR gM gF B left r) (o : Obj) (hk : Kq (fun k => k = W.heap.size) w.heap.size (W.alloc o) W1) : WkF w W1 gL gR gM gF B left r := by
  have hb := below_alloc (Below.refl W.heap.size W) o
  obtain ⟨A, c, h1, h2⟩ := h.st.list
  obtain ⟨A', c', h3, h4⟩ := h.it
  have hlt : B < W.heap.size := by
    obtain ⟨o, h1, _⟩ := cells_of_cell h3
    exact (Array.getElem?_eq_some_iff.1 h1).1
  have h2' : InQ A c (r.map toR) (W.alloc o) := ⟨Kd.C_below h2.1 hb, h2.2⟩
  have h4' : InP A' c' r (W.alloc o) := ⟨Kd.C_below h4.1 hb, h4.2⟩
  refine ⟨⟨(h.st.below.trans (hb.mono h.st.below.size)).trans hk.1, boxed_kq (boxed_below h.st.bL hb) hk (Nat.ne_of_lt h.st.bL.lt), boxed_kq (boxed_below h.st.bR hb) hk (Nat.ne_of_lt h.st.bR.lt), A, c, boxed_kq (boxed_below h1 hb) hk (Nat.ne_of_lt h1.lt), hk.inQ h2' (fun ad e hn => Nat.ne_of_lt (inQ_lt h2 ad e hn))⟩, boxed_kq (boxed_below h.bF hb) hk (Nat.ne_of_lt h.bF.lt), A', c', hk.cell ((hb.cell (p := ⟨B, 0, none⟩) hlt).trans h3) (Nat.ne_of_lt hlt), hk.inP h4' (fun ad e hn => Nat.ne_of_lt (inP_lt h4 ad e hn))⟩
theorem WkF.step {w W W1 : World} {gL gR gM gF B : Nat} {left : Int} {r : List Sn} (h : WkF w W gL gR gM gF B left r) (hb : Below W.heap.size W W1) : WkF w W1 gL gR gM gF B left r := by
  obtain ⟨A', c', h3, h4⟩ := h.it
  have hlt : B < W.heap.size := by
    obtain ⟨o, h1, _⟩ := cells_of_cell h3
    exact (Array.getElem?_eq_some_iff.1 h1).1
  exact ⟨h.st.step hb, boxed_below h.bF hb, A', c', (hb.cell (p := ⟨B, 0, none⟩) hlt).trans h3, Kd.C_below h4.1 hb, h4.2⟩

theorem results_cell {P : Program} {fn : Func} {p : Tmp} {ty : TypeId} {tmps : Array Value} {w : World} {g : Nat} {b : Bool} (h : fn.results = #[.cell p ty]) (hp : tmps.getD p undef = .pointer (some ⟨g, 0, none⟩)) (hu : P.underlying ty = some .bool) (hc : w.cell? ⟨g, 0, none⟩ = some (.bool b)) :
    (results fn tmps).run P w = .ok (.bool b) w := by
  unfold results
  rw [show fn.results = [ResultVar.cell p ty].toArray from h, List.mapM_toArray]
  have hp' : tmps[p]?.getD undef = .pointer (some ⟨g, 0, none⟩) := by rw [← hp]; simp [Array.getD_eq_getD_getElem?]
  have ha : (isAgg ty).run P w = .ok false w := by simp [isAgg, run_underlying hu]
  simp [List.mapM_cons, hp', asAddr, loadVar, go_sem, ha, hc]
theorem Kq.then_new {S : Nat → Prop} {B : Nat} {W W3 V : World} {o : Obj} (h1 : Kq S B W W3) (hB : B ≤ W3.heap.size) (h2 : Kq (fun k => k = W3.heap.size) B (W3.alloc o) V) : Kq S B W V :=
  ⟨(h1.1.trans ((below_alloc (Below.refl W3.heap.size W3) o).mono hB)).trans h2.1, fun b ob h hb hS => by
    have h3 := h1.2 b ob h hb hS
    have hlt := (Array.getElem?_eq_some_iff.1 h3).1
    exact h2.2 b ob ((Below.heap_alloc W3 o b hlt).trans h3) hb (Nat.ne_of_lt hlt)⟩
theorem Kq.then_below {S : Nat → Prop} {B : Nat} {W V V1 : World} (h1 : Kq S B W V) (hB : B ≤ V.heap.size) (hb : Below V.heap.size V V1) : Kq S B W V1 := h1.trans (Kq.of_below hb hB)
theorem in_block {id : Nat} {R : Exit → Act → World → Prop} {a : Act} {w : World} (h : R .normal a w) : Exit.inBlock id R (.exit id) a w := by
  show (if id = id then R .normal a w else R (.exit id) a w)
  rw [if_pos rfl]
  exact h
theorem with_block {c : Code} {F : Fence} {n : Nat} {P : Program} {id : Nat} {R : Exit → Act → World → Prop} {a : Act} {w : World} (h : ∀ R', R' = R → c.wpIn F n P (Exit.inBlock id R') a w) : c.wpIn F n P (Exit.inBlock id R) a w := h R rfl
theorem with_act {c : Code} {F : Fence} {n : Nat} {P : Program} {Q : Exit → Act → World → Prop} {a : Act} {w : World} (h : ∀ a', a' = a → c.wpIn F n P Q a' w) : c.wpIn F n P Q a w := h a rfl
/-- The loop's variable is handed over. -/
def atSlot (a : Act) (p s : Nat) (v : Value) : Act := { tmps := (a.tmps.setIfInBounds p v).setIfInBounds s v, defers := [] }
theorem wrap_succ (n : Nat) (h : n < 16777216) : wrap64 ((n : Int) + 1) = ((n + 1 : Nat) : Int) := by unfold wrap64; omega
theorem nat_le (n : Nat) (h : n < 16777216) : (n : Int) ≤ 9223372036854775807 := by omega
theorem lt50 {n : Nat} (h : n < 50) (h1 : ¬ (n : Int) + 1 = 50) : n + 1 < 50 := by omega
theorem cast_ne {n m : Nat} (h : ¬ n = m) : ¬ (n : Int) = (m : Int) := by omega
theorem keepsFrom_below {M : Nat} {W W1 : World} (h : Below W.heap.size W W1) : KeepsFrom M W W1 := ⟨h.size, fun k o _ hk _ => (h.block k (Array.getElem?_eq_some_iff.1 hk).1).trans hk⟩
theorem prefix_snoc {l pre : List Int} {x : Int} (h : pre <+: l) (hl : pre.length < l.length) (hx : x = l.getD pre.length 0) : pre ++ [x] <+: l := by
  obtain ⟨t, rfl⟩ := h
  cases t with
  | nil => simp at hl
  | cons y t =>
    have : y = x := by rw [hx]; simp [List.getD_eq_getElem?_getD]
    subst this
    exact ⟨t, by simp⟩
theorem not_prefix {l pre : List Int} {x : Int} (hl : pre.length < l.length) (hx : ¬ x = l.getD pre.length 0) : ¬ pre ++ [x] <+: l := fun h => hx (by
  obtain ⟨t, rfl⟩ := h
  simp [List.getD_eq_getElem?_getD])

set_option maxRecDepth 100000 in
set_option maxHeartbeats 4000000 in
theorem walks_all (w : World) {Aa : Option Addr} {ca : Nat} {a : List Sn} (ha : InP Aa ca a w) (la : a.length ≤ 1048576) (left : Int) :
    Calls Try.prog 4 #[.slice Aa a.length ca, .int .i64 left] w (Yes w) := by
  have HA := Aside0.mk ha
  have HGV := Aside0.mk (fun (W : World) (hW : Below w.heap.size w W) => c_given (W := W) (A0 := Aa) (c0 := ca) ⟨Kd.C_below ha.1 hW, ha.2⟩ (show a.length ≤ 4194304 by omega))
  have i1 := isQ_ev (a.map toR) (by rw [List.length_map]; omega)
  rw [qrs_toR] at i1
  have HIS := Aside0.mk i1
  obtain ⟨m, hm⟩ : ∃ m, a.map toR = m := ⟨_, rfl⟩
  rw [hm] at HGV HIS
  have HM := Aside0.mk hm
  clear ha i1 hm
  refine (callsIn_wide (n := 20)).1 ?_
  refine callsIn_of_wp_marks Try.func4 rfl trivial ?_ rfl
  simp only [Try.ntmps4, List.size_toArray, List.length_cons, List.length_nil, Nat.reduceAdd, Nat.reduceSub, Array.replicate_succ, Array.replicate_zero, List.push_toArray, List.append_toArray, List.nil_append, List.cons_append]
  have heq := fun (w : World) (f : Fn) (x y : Array Value) => run_eql_func_nil (P := Try.prog) (w := w) Try.underlying35 f x y
  gi_wp2
  have bL0 := (Boxed.new w 3 (.int .i64 left)).alloc (.cells #[.bool false] 4)
  have bR0 := Boxed.new (w.alloc (.cells #[.int .i64 left] 3)) 4 (.bool false)
  rw [alloc_size] at bR0
  have hB0 : Below w.heap.size w ((w.alloc (.cells #[.int .i64 left] 3)).alloc (.cells #[.bool false] 4)) := below_alloc (below_alloc (Below.refl _ _) _) _
  generalize ((w.alloc (.cells #[.int .i64 left] 3)).alloc (.cells #[.bool false] 4)) = W0 at *
  refine ⟨trivial, (callsIn_wide.2 (HGV.out W0 hB0)).mono ?_⟩
  rintro e w1 ⟨Am, cm, rfl, hQ, hb1⟩
  have HS1 := Aside0.mk (show WkSt w (w1.alloc (.cells #[.slice Am m.length cm] 23)) w.heap.size (w.heap.size + 1) w1.heap.size left m from
    ⟨below_alloc (hB0.trans (hb1.mono hB0.size)) _, (boxed_below bL0 hb1).alloc _, (boxed_below bR0 hb1).alloc _, Am, cm, Boxed.new w1 _ _, (lat_Q hQ _ (below_alloc (Below.refl _ _) _))⟩)
  have HGM := Aside0.mk (show w.heap.size + 1 < w1.heap.size from Nat.lt_of_lt_of_le bR0.lt hb1.size)
  clear hQ hb1 bL0 bR0 hB0 HGV
  gi_wp2
  generalize (w1.alloc (.cells #[.slice Am m.length cm] 23)) = W2 at *
  generalize w1.heap.size = gM at *
  refine ⟨trivial, (callsIn_wide.2 (c_awake W2)).mono ?_⟩
  rintro e w3 ⟨rfl, hb3⟩
  have HS3 := Aside0.mk (HS1.out.step hb3)
  obtain ⟨A3, c3, bM3, hQ3⟩ := HS3.out.list
  have cM3 := bM3.cell
  have HQ3 := Aside0.mk hQ3
  clear bM3 hQ3 hb3 HS1
  gi_wp2
  refine ⟨trivial, (callsIn_wide.2 (c_isQ HQ3.out HIS.out)).mono ?_⟩
  rintro e w4 ⟨rfl, hb4⟩
  have HS4 := Aside0.mk (HS3.out.step hb4)
  clear hb4 HS3 HQ3 cM3
  obtain ⟨r, hr⟩ : ∃ r, (if isB (prs a) = true then a else []) = r := ⟨_, rfl⟩
  have HR := Aside0.mk hr
  obtain ⟨is, his⟩ : ∃ x, isB (prs a) = x := ⟨_, rfl⟩
  rw [his] at hr HIS ⊢
  gi_upto_if 20 with (fail)
  gi_cut [] from 21 (fun wx => WkSt w wx w.heap.size (w.heap.size + 1) gM left (r.map toR))
  case first =>
    obtain ⟨A4, c4, bM4, hQ4⟩ := HS4.out.list
    have cM4 := bM4.cell
    have fM4 := bM4.frozen
    cases is with
    | true =>
      rw [if_pos rfl] at hr
      gi_wp2
      gi_meet
      rw [← hr, HM.out]
      exact HS4.out
    | false =>
      rw [if_neg (by decide)] at hr
      have bM5 := bM4.alloc (.cells #[] 68)
      have cM5 := bM5.cell
      have fM5 := bM5.frozen
      have HF := Aside0.mk (show WkSt w ((w4.alloc (.cells #[] 68)).setCell ⟨gM, 0, none⟩ (.slice (some ⟨w4.heap.size, 0, none⟩) 0 0)) w.heap.size (w.heap.size + 1) gM left (r.map toR) from by
        rw [← hr]
        have h5 := HS4.out.step (below_alloc (Below.refl w4.heap.size w4) (.cells #[] 68))
        have hgm := HGM.out
        exact ⟨below_set h5.below (by omega), h5.bL.other (by omega) _, h5.bR.other (by omega) _, some ⟨w4.heap.size, 0, none⟩, 0, bM5.set _, ⟨rfl, Nat.zero_le _, fun h => absurd h (Nat.lt_irrefl 0)⟩, Nat.zero_le _⟩)
      clear bM5
      gi_wp2
      gi_meet
      exact HF.out
  case rest =>
    have HS5 := Aside0.mk hcut
    have HALL := Aside0.mk (show Calls Try.prog 18 #[.slice Aa a.length ca] wc (AllPost wc r) from by
      have h := all_calls wc (A := Aa) (c := ca) (l := a) ⟨Kd.C_below HA.out.1 HS5.out.below, HA.out.2⟩ la
      rw [HR.out] at h
      exact h)
    have hbr : isB (prs r) = true := by
      rw [← HR.out]
      cases hx : isB (prs a) with
      | true => rw [if_pos rfl]; exact hx
      | false => rw [if_neg (by decide)]; decide
    have hlr : r.length ≤ 1048576 := by
      have := (isB_may hbr).2
      omega
    have HBR := Aside0.mk hbr
    clear hcut HR HA HS4 hr his HM HIS hbr
    gi_wp2
    refine ⟨trivial, (callsIn_wide.2 HALL.out).mono ?_⟩
    rintro e w6 ⟨B, Ar, cr, rfl, hBl, hBc, hIr, hb6⟩
    have HF7 := Aside0.mk (show WkF w (w6.alloc (.cells #[.func (.func 47) #[] #[.pointer (some ⟨B, 0, none⟩)]] 35)) w.heap.size (w.heap.size + 1) gM w6.heap.size B left r from by
      have hba := below_alloc (Below.refl w6.heap.size w6) (.cells #[.func (.func 47) #[] #[.pointer (some ⟨B, 0, none⟩)]] 35)
      exact ⟨(HS5.out.step hb6).step hba, Boxed.new w6 _ _, Ar, cr, (hba.cell (p := ⟨B, 0, none⟩) hBl).trans hBc, Kd.C_below hIr.1 hba, hIr.2⟩)
    clear hBl hBc hIr hb6 HS5 HALL
    obtain ⟨A7, c7, bM7, hQ7⟩ := HF7.out.st.list
    have cM7 := bM7.cell
    have HQ7 := Aside0.mk hQ7
    clear bM7 hQ7
    have HCN := Aside0.mk (show ∀ W : World, ∀ A c, InQ A c (r.map toR) W → Calls Try.prog 19 #[.slice A (r.map toR).length c] W (PI W .i64 (cntP r)) from fun W A c h => by
      obtain ⟨k, hk⟩ := (countQ_ev r (by omega) HBR.out).rounds
      exact (posternref07_Count.calls k A c _ _ W h.1 h.2 hk).mono fun e w' ⟨he, hd⟩ => ⟨he, hd.below⟩)
    have HCQ := Aside0.mk (show ∀ W : World, ∀ A c, InQ A c (r.map toR) W → ∀ j : Nat, Calls Try.prog 19 #[.slice A (r.map toR).length c] (W.drewN j) (fun e w' => e = .returned (.int .i64 (cntP r)) ∧ Drawn0 (W.drewN j) w') from fun W A c h j => by
      obtain ⟨k, hk⟩ := (countQ_ev r (by omega) HBR.out).rounds
      exact posternref07_Count.calls k A c _ _ (W.drewN j) (Kd.C_drewN h.1 j) h.2 hk)
    have HAT := Aside0.mk (show ∀ (n : Int), n ≤ 9223372036854775807 → ∀ W : World, ∀ A c, InQ A c (r.map toR) W → Calls Try.prog 20 #[.slice A (r.map toR).length c, .int .i64 n] W (PI W .i32 (atI r n)) from fun n hn W A c h => by
      obtain ⟨k, hk⟩ := (atQ_ev r (by omega) HBR.out n hn).rounds
      exact (posternref07_At.calls k A c _ n _ W h.1 h.2 hk).mono fun e w' ⟨he, hd⟩ => ⟨he, hd.below⟩)
    have HPL := Aside0.mk (pts_len (isB_may HBR.out).1)
    have HPA := Aside0.mk (fun (n : Nat) (h : n < (pts r).length) => (show atI r (n : Int) = (pts r).getD n 0 from by
      unfold atI
      rw [if_neg (by omega)]
      exact pts_at n (isB_may HBR.out).1 h))
    have HMY := Aside0.mk (isB_may HBR.out).1
    have HFM := Aside0.mk (fun (W : World) (h : WkF w W w.heap.size (w.heap.size + 1) gM w6.heap.size B left r) => h.st.list)
    clear HBR
    generalize hmq : r.map toR = mq at *
    clear hmq
    gi_wp2
    generalize (w6.alloc (.cells #[.func (.func 47) #[] #[.pointer (some ⟨B, 0, none⟩)]] 35)) = W7 at *
    generalize w6.heap.size = gF at *
    refine ⟨trivial, (callsIn_wide.2 (HCN.out _ _ _ HQ7.out)).mono ?_⟩
    rintro e w8 ⟨rfl, hb8⟩
    have HF8 := Aside0.mk (HF7.out.step hb8)
    clear hb8 HF7 HQ7 cM7
    by_cases hbig : cntP r > 3000
    · have HF9 := Aside0.mk (HF8.out.step (below_alloc (Below.refl w8.heap.size w8) (.cells #[.int .i64 0] 3)))
      have cF9 := HF9.out.bF.cell
      have bN9 := Boxed.new w8 3 (.int .i64 0)
      obtain ⟨A9, c9, hBc9, hI9⟩ := HF8.out.it
      have hlt9 : B < w8.heap.size := by
        obtain ⟨o, h1, _⟩ := cells_of_cell hBc9
        exact (Array.getElem?_eq_some_iff.1 h1).1
      have hs9 : (w8.alloc (.cells #[.int .i64 0] 3)).heap.size = w8.heap.size + 1 := alloc_size _ _
      have hw9 := HF8.out.st.below.size
      have hba9 := below_alloc (Below.refl w8.heap.size w8) (.cells #[.int .i64 0] 3)
      gi_wp2
      refine with_act ?_
      intro act hact
      refine wpIn_rangeFunc_ownG (gf := 47) (lb := #[.pointer (some ⟨B, 0, none⟩)]) rfl (by omega) (by rw [hact]; rfl) trivial (enters_of Try.func47 (by kernel_rfl) rfl)
        (all_stops Fence.wide (20 - 1) trivial rfl (by omega) (S := fun k => k = w8.heap.size) (B0 := w.heap.size) (w8.alloc (.cells #[.int .i64 0] 3)) HMY.out hlr (by omega) (fun k hk => by omega)
          ((hba9.cell (p := ⟨B, 0, none⟩) hlt9).trans hBc9) (Nat.ne_of_lt hlt9) ⟨Kd.C_below hI9.1 hba9, hI9.2⟩ (fun ad e hn => Nat.ne_of_lt (inP_lt hI9 ad e hn)))
        (fun h k => h.trans k) (fun W l o o' hl h hc _ => Kq.putObj o' (by omega) h hc) (Below.refl _ _) (fun _ => rfl)
        (fun pre W => (pre <+: pts r ∧ pre.length < 50) ∧ Boxed W w8.heap.size 3 (.int .i64 (pre.length : Int)) ∧ Kq (fun k => k = w8.heap.size) w.heap.size (w8.alloc (.cells #[.int .i64 0] 3)) W)
        (fun c pre W => ¬ pre <+: pts r ∨ (c = .ret ∧ Boxed W (w.heap.size + 1) 4 (.bool true) ∧ Below w.heap.size w W))
        ?hI ?hIx ?h0 (fun x => atSlot act 30 8 (.int .i32 x)) ?assign ?body ?done ?stop
      case hI => exact OwnFrom.and (ownFrom_pure _ _) (OwnFrom.and (Own.from (boxed_own _ _ (fun pre : List Int => Value.int .i64 (pre.length : Int))) _) (ownFrom_kq (by omega) (by omega)))
      case hIx =>
        intro c s W W' row hs hg hr
        rcases hs with h | ⟨h1, h2, h3⟩
        · exact .inl h
        · exact .inr ⟨h1, boxed_own (w.heap.size + 1) 4 (fun (_ : Unit) => Value.bool true) () W W' row h2 hg (fun r e => (hr r e).2), h3.grown hg h3.size (fun k e => Nat.le_trans (by omega) (hr k e).1)⟩
      case h0 => exact ⟨⟨List.nil_prefix, by simp⟩, bN9, Kq.refl _ _ _⟩
      case assign =>
        intro l x W K hK
        subst hact
        gi_wp2
        exact hK
      case body =>
        rintro l pre x W ⟨⟨hp, hp50⟩, bN, hK⟩ hlen
        have HFW := Aside0.mk (HF8.out.later _ hK)
        obtain ⟨Aq, cq, bM, hQ⟩ := HFM.out W HFW.out
        have cM := bM.cell
        have cN := bN.cell
        have hat := HAT.out (pre.length : Int) (nat_le _ (Nat.lt_trans hp50 (by decide))) W Aq cq hQ
        rw [HPA.out pre.length hlen] at hat
        have HAX := Aside0.mk hat
        have HNK := Aside0.mk hK
        have bNA := Aside0.mk bN
        subst hact
        unfold atSlot
        clear hat bM hQ
        gi_wp2
        refine ⟨trivial, (CallsIn.inRound l (callsIn_wide.2 HAX.out)).mono ?_⟩
        rintro e W2 ⟨rfl, hb2⟩
        have HFW2 := Aside0.mk (HFW.out.step hb2)
        have bN2 := boxed_below bNA.out hb2
        have bR2 := HFW2.out.st.bR
        have cN2 := bN2.cell
        have fN2 := bN2.frozen
        have cR2 := bR2.cell
        have fR2 := bR2.frozen
        have hk2 := HNK.out.trans (Kq.of_below hb2 HFW.out.st.below.size)
        have HKF := Aside0.mk (keepsFrom_below (M := (w8.alloc (.cells #[.int .i64 0] 3)).heap.size) hb2)
        have HKW := Aside0.mk (Kq.of_below (S := fun k => k = w8.heap.size) hb2 HFW.out.st.below.size)
        have HK2 := Aside0.mk hk2
        have hgR : w.heap.size + 1 < w8.heap.size := HF8.out.st.bR.lt
        have hln : (pre ++ [x]).length = pre.length + 1 := by simp
        have HBN := Aside0.mk bN2
        have HBR := Aside0.mk bR2
        clear bN2 bR2 hk2 hb2 HAX HNK bNA cM cN hK bN HFW
        generalize hyx : (pts r).getD pre.length 0 = y at *
        by_cases hxy : x = y
        · have hpx : pre ++ [x] <+: pts r := prefix_snoc hp hlen (by rw [hyx]; exact hxy)
          subst hxy
          have hlz : ((pre ++ [x]).length : Int) = (pre.length : Int) + 1 := by rw [hln]; rfl
          have bS := HBN.out.set (.int .i64 ((pre.length : Int) + 1))
          have cS := bS.cell
          have bRS := HBR.out.other (B' := w8.heap.size) (Nat.ne_of_lt hgR) (.int .i64 ((pre.length : Int) + 1))
          have cRS := bRS.cell
          have fRS := bRS.frozen
          have HBS := Aside0.mk bS
          have HBRS := Aside0.mk bRS
          have HKS := Aside0.mk (Kq.set (S := fun k => k = w8.heap.size) (W := W2) (B := w.heap.size) (g := w8.heap.size) hw9 rfl (.int .i64 ((pre.length : Int) + 1)))
          clear bS bRS
          gi_wp2
          · exact ⟨HKF.out.trans (((KeepsOthers.setCell _ _ _).from _).trans ((KeepsOthers.setCell _ _ _).from _)), .inr ⟨rfl, HBRS.out.set _, below_set (below_set HFW2.out.st.below hw9) (Nat.le_succ _)⟩⟩
          · rename_i h50
            have h48 : (pre ++ [x]).length < 50 := by
              rw [hln]
              exact lt50 hp50 (fun h => by rw [h] at h50; exact absurd h50 (by decide))
            exact ⟨HKF.out.trans ((KeepsOthers.setCell _ _ _).from _), HKW.out.trans HKS.out, ⟨hpx, h48⟩, by rw [hlz]; exact HBS.out, HK2.out.trans HKS.out⟩
        · have hnp : ¬ pre ++ [x] <+: pts r := not_prefix hlen (by rw [hyx]; exact hxy)
          gi_wp2
          exact ⟨HKF.out.trans ((KeepsOthers.setCell _ _ _).from _), .inl hnp⟩
      case done =>
        rintro D xs W _ rfl ⟨⟨_, h50⟩, _⟩ _
        have := HPL.out
        omega
      case stop =>
        rintro D c pre W hD hp (h | ⟨rfl, bR, hB⟩) hK
        · exact absurd hp h
        · subst hact
          gi_wp2
          refine ⟨by simp, .inl ⟨_, _, rfl, run_takeDeferred hK, ?_⟩⟩
          have hc := cell_kept bR.cell (grownBy_putObj' _ D (.deferred none)) (fun r e => by cases e; exact ⟨_, hK, rfl⟩)
          refine ⟨.bool true, ?_, rfl, hB.trans (belowK_b (w := w) (Nat.le_refl _) W D _ _ (by omega) hK rfl rfl)⟩
          exact results_cell rfl rfl Try.underlying4 hc
    · have HF9 := Aside0.mk (HF8.out.step (below_alloc (Below.refl w8.heap.size w8) (.cells #[.int .i64 0] 3)))
      have bT9 := Boxed.new w8 3 (.int .i64 0)
      have HN3 := Aside0.mk (show (pts r).length ≤ 3000 from by have := HPL.out; omega)
      gi_wp2
      refine wpIn_loop_rounds 3 ?_
      rw [roundsIn_succ]
      generalize (w8.alloc (.cells #[.int .i64 0] 3)) = W9 at *
      generalize w8.heap.size = g9 at *
      clear HF8 hbig
      have HF10 := Aside0.mk (HF9.out.step (below_alloc (Below.refl W9.heap.size W9) (.cells #[.int .i64 0] 3)))
      have cF10 := HF10.out.bF.cell
      have cT9 := bT9.cell
      have bN10 := Boxed.new W9 3 (.int .i64 0)
      obtain ⟨A9, c9, hBc9, hI9⟩ := HF9.out.it
      have hlt9 : B < W9.heap.size := by
        obtain ⟨o, h1, _⟩ := cells_of_cell hBc9
        exact (Array.getElem?_eq_some_iff.1 h1).1
      have hs9 : (W9.alloc (.cells #[.int .i64 0] 3)).heap.size = W9.heap.size + 1 := alloc_size _ _
      have hw9 := HF9.out.st.below.size
      have hba9 := below_alloc (Below.refl W9.heap.size W9) (.cells #[.int .i64 0] 3)
      gi_wp2
      refine with_block ?_
      intro R hR
      refine with_act ?_
      intro act hact
      have key : ∀ (D : Nat) (W : World), (W9.alloc (.cells #[.int .i64 0] 3)).heap.size ≤ D → Kq (fun k => k = W9.heap.size) w.heap.size (W9.alloc (.cells #[.int .i64 0] 3)) W → W.heap[D]? = some (.deferred (some [])) → R .normal { act with defers := { target := .collected D, args := #[] } :: act.defers } W := by
        intro D W hD hK hKD
        have HFW := Aside0.mk (HF9.out.later _ hK)
        have hgT : g9 ≠ W9.heap.size := Nat.ne_of_lt bT9.lt
        have bTW := boxed_kq (boxed_below bT9 hba9) hK hgT
        have cTW := bTW.cell
        subst hR
        subst hact
        gi_wp2
        have hmix : Try.prog.follows .mixedOrders = true := by kernel_rfl
        refine wpIn_region_quiet_lit rfl (by kernel_rfl) (by kernel_rfl) ?_
        repeat (gi_big_quiet_step (fail))
        refine Go.BigFrame.wpQuietIn_skip (fun _ _ _ _ => trivial) rfl ?_
        simp only [Act.put, List.setIfInBounds_toArray, List.set_cons_succ, List.set_cons_zero]
        repeat (gi_big_quiet_step (fail))
        refine wpQuietIn_nil ?_
        intro _ hw'
        obtain ⟨nq, hw''⟩ := hw'
        subst hw''
        have hbV : Below W.heap.size W (W.drewN nq) := pw_below_drewN (Below.refl _ _) nq
        have HFV := Aside0.mk (HFW.out.step hbV)
        have bTV := boxed_below bTW hbV
        have cTV := bTV.cell
        have hDV : (W.drewN nq).heap[D]? = some (.deferred (some [])) := hKD
        clear hbV bTV bTW cTW HFW hKD hK
        generalize W.drewN nq = V at *
        have HFA := Aside0.mk (HFV.out.step (below_alloc (Below.refl V.heap.size V) (.cells #[.int .i64 1] 3)))
        have bTA := Boxed.new V 3 (.int .i64 1)
        have hDA : (V.alloc (.cells #[.int .i64 1] 3)).heap[D]? = some (.deferred (some [])) := (Below.heap_alloc V _ D (Array.getElem?_eq_some_iff.1 hDV).1).trans hDV
        gi_wp2
        rw [roundsIn_succ]
        generalize (V.alloc (.cells #[.int .i64 1] 3)) = VA at *
        generalize V.heap.size = gT at *
        clear cTV HFV hDV
        have HFB := Aside0.mk (HFA.out.step (below_alloc (Below.refl VA.heap.size VA) (.cells #[.int .i64 0] 3)))
        have cFB := HFB.out.bF.cell
        have cTA := bTA.cell
        have bNB := Boxed.new VA 3 (.int .i64 0)
        obtain ⟨AB, cB, hBcB, hIB⟩ := HFA.out.it
        have hltB : B < VA.heap.size := by
          obtain ⟨o, h1, _⟩ := cells_of_cell hBcB
          exact (Array.getElem?_eq_some_iff.1 h1).1
        have hsB : (VA.alloc (.cells #[.int .i64 0] 3)).heap.size = VA.heap.size + 1 := alloc_size _ _
        have hwB := HFA.out.st.below.size
        have hbaB := below_alloc (Below.refl VA.heap.size VA) (.cells #[.int .i64 0] 3)
        have hDlt : D < VA.heap.size := (Array.getElem?_eq_some_iff.1 hDA).1
        have hDB : (VA.alloc (.cells #[.int .i64 0] 3)).heap[D]? = some (.deferred (some [])) := (Below.heap_alloc VA _ D hDlt).trans hDA
        gi_wp2
        refine with_act ?_
        intro act hact
        refine wpIn_rangeFunc_ownG (gf := 47) (lb := #[.pointer (some ⟨B, 0, none⟩)]) rfl (by omega) (by rw [hact]; rfl) trivial (enters_of Try.func47 (by kernel_rfl) rfl)
          (all_stops Fence.wide (20 - 1) trivial rfl (by omega) (S := fun k => k = VA.heap.size) (B0 := w.heap.size) (VA.alloc (.cells #[.int .i64 0] 3)) HMY.out hlr (by omega) (fun k hk => by omega)
            ((hbaB.cell (p := ⟨B, 0, none⟩) hltB).trans hBcB) (Nat.ne_of_lt hltB) ⟨Kd.C_below hIB.1 hbaB, hIB.2⟩ (fun ad e hn => Nat.ne_of_lt (inP_lt hIB ad e hn)))
          (fun h k => h.trans k) (fun W l o o' hl h hc _ => Kq.putObj o' (by omega) h hc) (Below.refl _ _) (fun _ => rfl)
          (fun pre W => pre <+: pts r ∧ Boxed W VA.heap.size 3 (.int .i64 (pre.length : Int)) ∧ Kq (fun k => k = VA.heap.size) w.heap.size (VA.alloc (.cells #[.int .i64 0] 3)) W ∧ W.heap[D]? = some (.deferred (some [])))
          (fun c pre W => ¬ pre <+: pts r)
          ?hIB (fun _ => ownFrom_pure _ _) ?h0B (fun x => atSlot act 45 11 (.int .i32 x)) ?assignB ?bodyB ?doneB ?stopB
        case hIB => exact OwnFrom.and (ownFrom_pure _ _) (OwnFrom.and (Own.from (boxed_own _ _ (fun pre : List Int => Value.int .i64 (pre.length : Int))) _) (OwnFrom.and (ownFrom_kq (by omega) (by omega)) (fun s X Y row hs hg hr => (hg.block D (Array.getElem?_eq_some_iff.1 hs).1 (fun e => by have := (hr D e.symm).1; omega)).trans hs)))
        case h0B => exact ⟨List.nil_prefix, bNB, Kq.refl _ _ _, hDB⟩
        case assignB =>
          intro l x W K hK
          subst hact
          gi_wp2
          exact hK
        case bodyB =>
          rintro l pre x W ⟨hp, bN, hK, hKD⟩ hlen
          have HFW := Aside0.mk (HFA.out.later _ hK)
          obtain ⟨Aq, cq, bM, hQ⟩ := HFM.out W HFW.out
          have cM := bM.cell
          have cN := bN.cell
          have hp30 : pre.length < 3000 := Nat.lt_of_lt_of_le hlen HN3.out
          have hat := HAT.out (pre.length : Int) (nat_le _ (Nat.lt_trans hp30 (by decide))) W Aq cq hQ
          rw [HPA.out pre.length hlen] at hat
          have HAX := Aside0.mk hat
          have HNK := Aside0.mk hK
          have bNA := Aside0.mk bN
          subst hact
          unfold atSlot
          clear hat bM hQ
          gi_wp2
          refine ⟨trivial, (CallsIn.inRound l (callsIn_wide.2 HAX.out)).mono ?_⟩
          rintro e W2 ⟨rfl, hb2⟩
          have HFW2 := Aside0.mk (HFW.out.step hb2)
          have bN2 := boxed_below bNA.out hb2
          have bR2 := HFW2.out.st.bR
          have cN2 := bN2.cell
          have fN2 := bN2.frozen
          have cR2 := bR2.cell
          have fR2 := bR2.frozen
          have hk2 := HNK.out.trans (Kq.of_below hb2 HFW.out.st.below.size)
          have hgTB : gT ≠ VA.heap.size := Nat.ne_of_lt bTA.lt
          have bT2 := boxed_kq (boxed_below bTA hbaB) hk2 hgTB
          have HKF := Aside0.mk (keepsFrom_below (M := (VA.alloc (.cells #[.int .i64 0] 3)).heap.size) hb2)
          have HKW := Aside0.mk (Kq.of_below (S := fun k => k = VA.heap.size) hb2 HFW.out.st.below.size)
          have HK2 := Aside0.mk hk2
          have HBT2 := Aside0.mk bT2
          have hlz : ((pre ++ [x]).length : Int) = (pre.length : Int) + 1 := by rw [List.length_append]; rfl
          have HBN := Aside0.mk bN2
          have HD2 := Aside0.mk ((hb2.block D (Array.getElem?_eq_some_iff.1 hKD).1).trans hKD)
          clear bN2 bR2 hk2 hb2 HAX HNK bNA cM cN hK bN HFW bT2 hKD
          generalize hyx : (pts r).getD pre.length 0 = y at *
          by_cases hxy : x = y
          · have hpx : pre ++ [x] <+: pts r := prefix_snoc hp hlen (by rw [hyx]; exact hxy)
            subst hxy
            have bS := HBN.out.set (.int .i64 ((pre.length : Int) + 1))
            have cS := bS.cell
            have cTS := (HBT2.out.other (B' := VA.heap.size) hgTB (.int .i64 ((pre.length : Int) + 1))).cell
            have HBS := Aside0.mk bS
            have HKS := Aside0.mk (Kq.set (S := fun k => k = VA.heap.size) (W := W2) (B := w.heap.size) (g := VA.heap.size) hwB rfl (.int .i64 ((pre.length : Int) + 1)))
            have HDS := Aside0.mk ((Below.heap_setCell W2 ⟨VA.heap.size, 0, none⟩ (.int .i64 ((pre.length : Int) + 1)) D (Nat.ne_of_lt hDlt)).trans HD2.out)
            clear bS
            gi_wp2
            exact ⟨HKF.out.trans ((KeepsOthers.setCell _ _ _).from _), HKW.out.trans HKS.out, hpx, by rw [hlz]; exact HBS.out, HK2.out.trans HKS.out, HDS.out⟩
          · have hnp : ¬ pre ++ [x] <+: pts r := not_prefix hlen (by rw [hyx]; exact hxy)
            gi_wp2
            exact ⟨HKF.out.trans ((KeepsOthers.setCell _ _ _).from _), hnp⟩
        case doneB =>
          rintro D1 xs W1 hD1 rfl ⟨hp, bN, hK, hKD⟩ hKD1
          have HFW := Aside0.mk (HFA.out.later _ hK)
          obtain ⟨Aq, cq, bM, hQ⟩ := HFM.out W1 HFW.out
          have cM := bM.cell
          have cN := bN.cell
          rw [HPL.out] at cN
          have cT1 := (boxed_kq (boxed_below bTA hbaB) hK (Nat.ne_of_lt bTA.lt)).cell
          have HCX := Aside0.mk (HCQ.out W1 Aq cq hQ)
          subst hact
          clear hQ bM bN
          gi_wp2
          refine wpIn_region_quiet_lit rfl (by kernel_rfl) (by kernel_rfl) ?_
          repeat (gi_big_quiet_step (fail))
          refine Go.BigFrame.wpQuietIn_want (fun _ _ _ _ => trivial) rfl ?_
          intro K hKK
          gi_big_quiet_op
          gi_big_quiet_call (first | (refine (callsIn_wide.2 (HCX.out _)).mono ?_; rintro e w'' ⟨rfl, ⟨j2, rfl⟩⟩; exact ⟨rfl, _, World.drewN_drewN _ _ _⟩))
          repeat (gi_big_quiet_step (fail))
          refine wpQuietIn_nil ?_
          intro _ hw'
          obtain ⟨nq2, hw''⟩ := hw'
          subst hw''
          have hbV : Below W1.heap.size W1 (W1.drewN nq2) := pw_below_drewN (Below.refl _ _) nq2
          have HF1 := Aside0.mk (HFW.out.step hbV)
          have bT1 := boxed_below (boxed_kq (boxed_below bTA hbaB) hK (Nat.ne_of_lt bTA.lt)) hbV
          have cT2 := bT1.cell
          have hE1 : (W1.drewN nq2).heap[D1]? = some (.deferred (some [])) := hKD1
          have hE : (W1.drewN nq2).heap[D]? = some (.deferred (some [])) := hKD
          clear hbV cT1 cN cM HFW hKD1 hKD hK HCX bT1
          generalize W1.drewN nq2 = V1 at *
          have HF2 := Aside0.mk (HF1.out.step (below_alloc (Below.refl V1.heap.size V1) (.cells #[.int .i64 2] 3)))
          have bT3 := (Boxed.new V1 3 (.int .i64 2)).cell
          have cR3 := HF2.out.st.bR.cell
          have fR3 := HF2.out.st.bR.frozen
          have hE1' : (V1.alloc (.cells #[.int .i64 2] 3)).heap[D1]? = some (.deferred (some [])) := (Below.heap_alloc V1 _ D1 (Array.getElem?_eq_some_iff.1 hE1).1).trans hE1
          have hE' : (V1.alloc (.cells #[.int .i64 2] 3)).heap[D]? = some (.deferred (some [])) := (Below.heap_alloc V1 _ D (Array.getElem?_eq_some_iff.1 hE).1).trans hE
          gi_wp2
          rw [roundsIn_succ]
          generalize (V1.alloc (.cells #[.int .i64 2] 3)) = V2 at *
          have hgA : w.heap.size + 1 < VA.heap.size := HFA.out.st.bR.lt
          have hg9' : w.heap.size + 1 < W9.heap.size := HF9.out.st.bR.lt
          have hne1 : D1 ≠ w.heap.size + 1 := by omega
          have hne : D ≠ w.heap.size + 1 := by omega
          have hDD : D ≠ D1 := by omega
          have hwD1 : w.heap.size ≤ D1 := by omega
          have hwD : w.heap.size ≤ D := by omega
          have k1 : (V2.setCell ⟨w.heap.size + 1, 0, none⟩ (.bool true)).heap[D1]? = some (.deferred (some [])) := (Below.heap_setCell V2 ⟨w.heap.size + 1, 0, none⟩ (.bool true) D1 hne1).trans hE1'
          have k2 : ((V2.setCell ⟨w.heap.size + 1, 0, none⟩ (.bool true)).putObj D1 (.deferred none)).heap[D]? = some (.deferred (some [])) := (World.putObj_heap_other hDD).trans ((Below.heap_setCell V2 ⟨w.heap.size + 1, 0, none⟩ (.bool true) D hne).trans hE')
          have b1 := HF2.out.st.bR.set (.bool true)
          have c4 := cell_kept b1.cell (grownBy_putObj' _ D1 (.deferred none)) (fun r e => by cases e; exact ⟨_, k1, rfl⟩)
          have c5 := cell_kept c4 (grownBy_putObj' _ D (.deferred none)) (fun r e => by cases e; exact ⟨_, k2, rfl⟩)
          have hBe := ((below_set HF2.out.st.below (g := w.heap.size + 1) (Nat.le_succ _)).trans (belowK_b (w := w) (Nat.le_refl _) _ D1 _ (.deferred none) hwD1 k1 rfl rfl)).trans (belowK_b (w := w) (Nat.le_refl _) _ D _ (.deferred none) hwD k2 rfl rfl)
          gi_wp2
          refine ⟨by simp, .inl ⟨_, _, rfl, run_takeDeferred k1, ?_⟩⟩
          refine ⟨by simp, .inl ⟨_, _, rfl, run_takeDeferred k2, ?_⟩⟩
          exact ⟨.bool true, results_cell rfl rfl Try.underlying4 c5, rfl, hBe⟩
        case stopB =>
          rintro D1 c pre W1 _ hp h _
          exact absurd hp h
      refine wpIn_rangeFunc_ownH (gf := 47) (lb := #[.pointer (some ⟨B, 0, none⟩)]) rfl (by omega) (by rw [hact]; rfl) trivial (enters_of Try.func47 (by kernel_rfl) rfl)
        (all_stops Fence.wide (20 - 1) trivial rfl (by omega) (S := fun k => k = W9.heap.size) (B0 := w.heap.size) (W9.alloc (.cells #[.int .i64 0] 3)) HMY.out hlr (by omega) (fun k hk => by omega)
          ((hba9.cell (p := ⟨B, 0, none⟩) hlt9).trans hBc9) (Nat.ne_of_lt hlt9) ⟨Kd.C_below hI9.1 hba9, hI9.2⟩ (fun ad e hn => Nat.ne_of_lt (inP_lt hI9 ad e hn)))
        (fun h k => h.trans k) (fun W l o o' hl h hc _ => Kq.putObj o' (by omega) h hc) (Below.refl _ _) (fun _ => rfl)
        (fun pre W => pre <+: pts r ∧ Boxed W W9.heap.size 3 (.int .i64 (pre.length : Int)) ∧ Kq (fun k => k = W9.heap.size) w.heap.size (W9.alloc (.cells #[.int .i64 0] 3)) W)
        (fun c pre W => ¬ pre <+: pts r ∨ (c = .exit 4 ∧ Kq (fun k => k = W9.heap.size) w.heap.size (W9.alloc (.cells #[.int .i64 0] 3)) W))
        ?hI ?hIx ?h0 (fun x a' _ => a' = atSlot act 45 11 (.int .i32 x)) (fun _ _ _ _ _ _ hs _ _ => hs) ?assign ?body ?done ?stop
      case hI => exact OwnFrom.and (ownFrom_pure _ _) (OwnFrom.and (Own.from (boxed_own _ _ (fun pre : List Int => Value.int .i64 (pre.length : Int))) _) (ownFrom_kq (by omega) (by omega)))
      case hIx =>
        intro c s W W' row hs hg hr
        rcases hs with h | ⟨h1, h2⟩
        · exact .inl h
        · exact .inr ⟨h1, ownFrom_kq (β := Unit) (by omega) (by omega) () W W' row h2 hg hr⟩
      case h0 => exact ⟨List.nil_prefix, bN10, Kq.refl _ _ _⟩
      case assign =>
        rintro l pre x W K hi hK
        subst hact
        gi_wp2
        exact hK _ _ (KeepsFrom.refl _ _) (Kq.refl _ _ _) hi rfl
      case body =>
        rintro l pre x a' W hl ⟨rr, hrr⟩ ⟨hp, bN, hK⟩ rfl hlen
        have HFW := Aside0.mk (HF9.out.later _ hK)
        obtain ⟨Aq, cq, bM, hQ⟩ := HFM.out W HFW.out
        have cM := bM.cell
        have cN := bN.cell
        have hp30 : pre.length < 3000 := Nat.lt_of_lt_of_le hlen HN3.out
        have hat := HAT.out (pre.length : Int) (nat_le _ (Nat.lt_trans hp30 (by decide))) W Aq cq hQ
        rw [HPA.out pre.length hlen] at hat
        have HAX := Aside0.mk hat
        have HNK := Aside0.mk hK
        have bNA := Aside0.mk bN
        subst hact
        unfold atSlot
        clear hat bM hQ
        gi_wp2
        refine ⟨trivial, (CallsIn.inRound l (callsIn_wide.2 HAX.out)).mono ?_⟩
        rintro e W2 ⟨rfl, hb2⟩
        have HFW2 := Aside0.mk (HFW.out.step hb2)
        have bN2 := boxed_below bNA.out hb2
        have bR2 := HFW2.out.st.bR
        have bL2 := HFW2.out.st.bL
        have cN2 := bN2.cell
        have fN2 := bN2.frozen
        have cR2 := bR2.cell
        have fR2 := bR2.frozen
        have hk2 := HNK.out.trans (Kq.of_below hb2 HFW.out.st.below.size)
        have hgT : g9 ≠ W9.heap.size := Nat.ne_of_lt bT9.lt
        have bT2 := boxed_kq (boxed_below bT9 hba9) hk2 hgT
        have HKF := Aside0.mk (keepsFrom_below (M := (W9.alloc (.cells #[.int .i64 0] 3)).heap.size) hb2)
        have HKW := Aside0.mk (Kq.of_below (S := fun k => k = W9.heap.size) hb2 HFW.out.st.below.size)
        have HK2 := Aside0.mk hk2
        have HBT2 := Aside0.mk bT2
        have hgR : w.heap.size + 1 < W9.heap.size := HF9.out.st.bR.lt
        have hgL : w.heap.size < W9.heap.size := HF9.out.st.bL.lt
        have hlz : ((pre ++ [x]).length : Int) = (pre.length : Int) + 1 := by rw [List.length_append]; rfl
        have HBN := Aside0.mk bN2
        have HBR := Aside0.mk bR2
        have HBL := Aside0.mk bL2
        have HRR := Aside0.mk ((hb2.block l (Array.getElem?_eq_some_iff.1 hrr).1).trans hrr)
        clear bN2 bR2 bL2 hk2 hb2 HAX HNK bNA cM cN hK bN HFW bT2 hrr
        generalize hyx : (pts r).getD pre.length 0 = y at *
        by_cases hxy : x = y
        · have hpx : pre ++ [x] <+: pts r := prefix_snoc hp hlen (by rw [hyx]; exact hxy)
          subst hxy
          have bS := HBN.out.set (.int .i64 ((pre.length : Int) + 1))
          have cS := bS.cell
          have cLS := (HBL.out.other (B' := W9.heap.size) (Nat.ne_of_lt hgL) (.int .i64 ((pre.length : Int) + 1))).cell
          have cTS := (HBT2.out.other (B' := W9.heap.size) hgT (.int .i64 ((pre.length : Int) + 1))).cell
          have HBS := Aside0.mk bS
          have HKS := Aside0.mk (Kq.set (S := fun k => k = W9.heap.size) (W := W2) (B := w.heap.size) (g := W9.heap.size) hw9 rfl (.int .i64 ((pre.length : Int) + 1)))
          have cFS := (HFW2.out.bF.other (B' := W9.heap.size) (Nat.ne_of_lt HF9.out.bF.lt) (.int .i64 ((pre.length : Int) + 1))).cell
          have cFA := ((HFW2.out.bF.other (B' := W9.heap.size) (Nat.ne_of_lt HF9.out.bF.lt) (.int .i64 ((pre.length : Int) + 1))).alloc (.cells #[.int .i64 0] 3)).cell
          clear bS
          gi_wp2
          · exact ⟨HKF.out.trans ((KeepsOthers.setCell _ _ _).from _), .inr ⟨rfl, HK2.out.trans HKS.out⟩⟩
          · have e1 : ((pre.length : Int) + 1 == left) = false := by assumption
            have e2 : ((pre.length : Int) + 1 == 1) = true := by assumption
            rw [e1, e2]
            clear e1 e2
            have HF3 := Aside0.mk (HF9.out.later _ (HK2.out.trans HKS.out))
            have hl9 : l ≠ W9.heap.size := by omega
            have hg32 : (W2.setCell ⟨W9.heap.size, 0, none⟩ (.int .i64 ((pre.length : Int) + 1))).heap.size = W2.heap.size := by simp [World.setCell]
            have hrr3 : (W2.setCell ⟨W9.heap.size, 0, none⟩ (.int .i64 ((pre.length : Int) + 1))).heap[l]? = some (.loop rr) := (Below.heap_setCell W2 ⟨W9.heap.size, 0, none⟩ _ l hl9).trans HRR.out
            have HKF3 := Aside0.mk (HKF.out.trans ((KeepsOthers.setCell W2 ⟨W9.heap.size, 0, none⟩ (.int .i64 ((pre.length : Int) + 1))).from _))
            have HKW3 := Aside0.mk (HKW.out.trans HKS.out)
            have HK3 := Aside0.mk (HK2.out.trans HKS.out)
            clear HFW2 HRR HKF HKW HK2 HKS HBN HBR HBL HBT2 cN2 fN2 cR2 fR2 cS cLS cTS cFS cFA
            generalize (W2.setCell ⟨W9.heap.size, 0, none⟩ (.int .i64 ((pre.length : Int) + 1))) = W3 at *
            rw [← hg32]
            clear hg32
            obtain ⟨A3, c3, hBc3, hI3⟩ := HF3.out.it
            have hlt3 : B < W3.heap.size := by
              obtain ⟨o, h1, _⟩ := cells_of_cell hBc3
              exact (Array.getElem?_eq_some_iff.1 h1).1
            have hs3 : (W3.alloc (.cells #[.int .i64 0] 3)).heap.size = W3.heap.size + 1 := alloc_size _ _
            have hw3 := HF3.out.st.below.size
            have hba3 := below_alloc (Below.refl W3.heap.size W3) (.cells #[.int .i64 0] 3)
            have bK3 := Boxed.new W3 3 (.int .i64 0)
            have hWW3 := HKW3.out.1.size
            refine with_act ?_
            intro act2 hact2
            refine wpIn_rangeFunc_ownN (l₀ := l) (r₀ := rr) rfl ((Below.heap_alloc W3 _ l (Array.getElem?_eq_some_iff.1 hrr3).1).trans hrr3) (by omega) (gf := 47) (lb := #[.pointer (some ⟨B, 0, none⟩)]) (by rw [hact2]; rfl) trivial (enters_of Try.func47 (by kernel_rfl) rfl)
              ((all_stops Fence.wide (20 - 1 - 1 - 1) trivial rfl (by omega) (S := fun k => k = W3.heap.size) (B0 := w.heap.size) (W3.alloc (.cells #[.int .i64 0] 3)) HMY.out hlr (by omega) (fun k hk => by omega)
                ((hba3.cell (p := ⟨B, 0, none⟩) hlt3).trans hBc3) (Nat.ne_of_lt hlt3) ⟨Kd.C_below hI3.1 hba3, hI3.2⟩ (fun ad e hn => Nat.ne_of_lt (inP_lt hI3 ad e hn))).inRound l)
              (fun h k => h.trans k) (fun W l o o' hl h hc _ => Kq.putObj o' (by omega) h hc) (Below.refl _ _) (fun _ => rfl)
              (fun pre W' => pre <+: pts r ∧ Boxed W' W3.heap.size 3 (.int .i64 (pre.length : Int)) ∧ Kq (fun k => k = W3.heap.size) w.heap.size (W3.alloc (.cells #[.int .i64 0] 3)) W' ∧ KeepsFrom (W9.alloc (.cells #[.int .i64 0] 3)).heap.size W W')
              (fun c pre W' => ¬ pre <+: pts r)
              ?hI2 (fun _ => ownFrom_pure _ _) ?h02 (fun x a' _ => a' = atSlot act2 67 13 (.int .i32 x)) (fun _ _ _ _ _ _ hs _ _ => hs) ?assign2 ?body2 ?done2 ?stop2
            case hI2 => exact OwnFrom.and (ownFrom_pure _ _) (OwnFrom.and (Own.from (boxed_own _ _ (fun pre : List Int => Value.int .i64 (pre.length : Int))) _) (OwnFrom.and (ownFrom_kq (by omega) (by omega)) (ownFrom_keepsFrom (by omega))))
            case h02 => exact ⟨List.nil_prefix, bK3, Kq.refl _ _ _, HKF3.out.trans ((KeepsOthers.alloc _ _).from _)⟩
            case assign2 =>
              rintro l2 pre2 x2 W' K hi hK
              subst hact2
              gi_wp2
              exact hK _ _ (KeepsFrom.refl _ _) (Kq.refl _ _ _) hi rfl
            case body2 =>
              rintro l2 pre2 x2 a2 V _ _ ⟨hp2, bK, hKK, hKFF⟩ rfl hlen2
              have HFV := Aside0.mk (HF3.out.later _ hKK)
              obtain ⟨Aq2, cq2, bM2, hQ2⟩ := HFM.out V HFV.out
              have cM2 := bM2.cell
              have cK2 := bK.cell
              have hp32 : pre2.length < 3000 := Nat.lt_of_lt_of_le hlen2 HN3.out
              have hat2 := HAT.out (pre2.length : Int) (nat_le _ (Nat.lt_trans hp32 (by decide))) V Aq2 cq2 hQ2
              rw [HPA.out pre2.length hlen2] at hat2
              have HAX2 := Aside0.mk hat2
              have HNK2 := Aside0.mk hKK
              have HKFF := Aside0.mk hKFF
              have bKA := Aside0.mk bK
              subst hact2
              unfold atSlot
              clear hat2 bM2 hQ2
              gi_wp2
              refine ⟨trivial, (CallsIn.inRound l2 (CallsIn.inRound l (callsIn_wide.2 HAX2.out))).mono ?_⟩
              rintro e V2 ⟨rfl, hb4⟩
              have HFV2 := Aside0.mk (HFV.out.step hb4)
              have bK4 := boxed_below bKA.out hb4
              have bR4 := HFV2.out.st.bR
              have cK4 := bK4.cell
              have fK4 := bK4.frozen
              have cR4 := bR4.cell
              have fR4 := bR4.frozen
              have HK4 := Aside0.mk (HNK2.out.trans (Kq.of_below hb4 HFV.out.st.below.size))
              have HKF4 := Aside0.mk (keepsFrom_below (M := (W3.alloc (.cells #[.int .i64 0] 3)).heap.size) hb4)
              have HKFO := Aside0.mk (HKFF.out.trans (keepsFrom_below (M := (W9.alloc (.cells #[.int .i64 0] 3)).heap.size) hb4))
              have HKV := Aside0.mk (Kq.of_below (S := fun k => k = W3.heap.size) hb4 HFV.out.st.below.size)
              have hlz2 : ((pre2 ++ [x2]).length : Int) = (pre2.length : Int) + 1 := by rw [List.length_append]; rfl
              have HBK4 := Aside0.mk bK4
              clear bK4 bR4 hb4 HAX2 HNK2 bKA cM2 cK2 hKK bK HFV HKFF hKFF
              generalize hyx2 : (pts r).getD pre2.length 0 = y2 at *
              by_cases hxy2 : x2 = y2
              · have hpx2 : pre2 ++ [x2] <+: pts r := prefix_snoc hp2 hlen2 (by rw [hyx2]; exact hxy2)
                subst hxy2
                have HKS4 := Aside0.mk (Kq.set (S := fun k => k = W3.heap.size) (W := V2) (B := w.heap.size) (g := W3.heap.size) hw3 rfl (.int .i64 ((pre2.length : Int) + 1)))
                have HBS4 := Aside0.mk (HBK4.out.set (.int .i64 ((pre2.length : Int) + 1)))
                gi_wp2
                exact ⟨HKF4.out.trans ((KeepsOthers.setCell _ _ _).from _), HKV.out.trans HKS4.out, hpx2, by rw [hlz2]; exact HBS4.out, HK4.out.trans HKS4.out, HKFO.out.trans ((KeepsOthers.setCell _ _ _).from _)⟩
              · have hnp2 : ¬ pre2 ++ [x2] <+: pts r := not_prefix hlen2 (by rw [hyx2]; exact hxy2)
                gi_wp2
                exact ⟨HKF4.out.trans ((KeepsOthers.setCell _ _ _).from _), hnp2⟩
            case done2 =>
              rintro ys V rfl ⟨hp2, bK, hKK, hKFF⟩
              have HFV := Aside0.mk (HF3.out.later _ hKK)
              obtain ⟨Aq2, cq2, bM2, hQ2⟩ := HFM.out V HFV.out
              have cM2 := bM2.cell
              have cK2 := bK.cell
              have hpl := HPL.out
              rw [hpl] at cK2
              have HCX := Aside0.mk (HCQ.out V Aq2 cq2 hQ2)
              have HNK2 := Aside0.mk hKK
              have HKFF := Aside0.mk hKFF
              subst hact2
              clear bM2 hQ2 bK hKK hKFF
              have HE := Aside0.mk (show ∀ V', Below V.heap.size V V' → (KeepsFrom (W9.alloc (.cells #[.int .i64 0] 3)).heap.size W V' ∧ Kq (fun k => k = W9.heap.size) w.heap.size W V' ∧ (pre ++ [x] <+: pts r ∧ Boxed V' W9.heap.size 3 (.int .i64 ((pre ++ [x]).length : Int)) ∧ Kq (fun k => k = W9.heap.size) w.heap.size (W9.alloc (.cells #[.int .i64 0] 3)) V')) from fun V' hV => by
                have hv := HFV.out.st.below.size
                refine ⟨HKFF.out.trans (keepsFrom_below hV), (HKW3.out.then_new hw3 HNK2.out).then_below hv hV, hpx, ?_, (HK3.out.then_new hw3 HNK2.out).then_below hv hV⟩
                rw [hlz]
                exact boxed_below (boxed_kq (HBS.out.alloc _) HNK2.out (Nat.ne_of_lt HBS.out.lt)) hV)
              have HCY := Aside0.mk (show ∀ W', (∃ j, W' = V.drewN j) → Calls Try.prog 19 #[.slice Aq2 mq.length cq2] W' (fun e w' => e = .returned (.int .i64 (cntP r)) ∧ Drawn0 W' w') from fun W' ⟨j, hj⟩ => by
                subst hj
                exact HCX.out j)
              gi_wp2
              have hmix : Try.prog.follows .mixedOrders = true := by kernel_rfl
              gi_region_with_o (refine ⟨trivial, ?_⟩; gi_at_call 19; refine (CallsIn.inRound l (callsIn_wide.2 (HCY.out _ (by first | exact ⟨_, rfl⟩ | exact ⟨0, rfl⟩ | exact ⟨1, rfl⟩)))).mono ?_; rintro e w' ⟨rfl, ⟨j2, rfl⟩⟩)
              all_goals gi_wp2
              all_goals exact HE.out _ (by repeat (first | exact Below.refl _ _ | apply Below.drew | apply pw_below_drewN))
            case stop2 =>
              rintro c pre2 W' hp2 h
              exact absurd hp2 h
          · exact ⟨HKF.out.trans ((KeepsOthers.setCell _ _ _).from _), HKW.out.trans HKS.out, hpx, by rw [hlz]; exact HBS.out, HK2.out.trans HKS.out⟩
        · have hnp : ¬ pre ++ [x] <+: pts r := not_prefix hlen (by rw [hyx]; exact hxy)
          gi_wp2
          exact ⟨HKF.out.trans ((KeepsOthers.setCell _ _ _).from _), .inl hnp⟩
      case done =>
        rintro D xs W hD rfl ⟨hp, bN, hK⟩ hKD
        exact key D W hD hK hKD
      case stop =>
        rintro D c pre W hD hp (h | ⟨rfl, hK⟩) hKD
        · exact absurd hp h
        · refine wpIn_exit ?_
          exact in_block (key D W hD hK hKD)
theorem spanWalks_calls (w : World) (Aa : Option Addr) (ca : Nat) (a : List Sn) (hA : Kd.C k50 w Aa a.length a) (hca : a.length ≤ ca) (_ : Fits a) (la : a.length ≤ 1048576) (left : Int) :
    Calls Try.prog 4 #[.slice Aa a.length ca, .int .i64 left] w (Yes w) := walks_all w ⟨hA, hca⟩ la left

end Go.Proofs.Ytkpdccegamcppaa.PSpan
