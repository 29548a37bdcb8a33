/- The document's Pack: its walk (by hand), and what it comes to. -/
import Derived.Test.YtajmbafljncjcaaSwapDStageOver
import Derived.Test.YtajmbafljncjcaaPackA
import Derived.Deep.DeepCutAuto
namespace Go.Proofs.Ytajmbafljncjcaa.PStageOver
open Go.RowKit Go.Proofs.YtajmbafljncjcaaW.PrintWords Go.Proofs.YtajmbafljncjcaaW.PrintLast Go.Proofs.YtajmbafljncjcaaW.PrintMore Go.Proofs.Ytajmbafljncjcaa.Stage Go.Proofs.Ytajmbafljncjcaa.Mp
set_option linter.unusedVariables false
set_option linter.unusedSimpArgs false

theorem infoI : (Try.prog.info? 3).map (fun i => (i.zero, i.size, i.bytes)) = some (some (.int .i64 0), 1, 8) := by kernel_rfl
theorem infoL : (Try.prog.info? 54).map (fun i => (i.zero, i.size, i.bytes)) = some (some (.slice none 0 0), 1, 24) := by kernel_rfl

/-- The stretches, and where they lie: a block of rows. -/
def RunsAt2 (w : World) (R : List (Nat × Nat × Nat)) (e : Ending) (w' : World) : Prop := Below w.heap.size w w' ∧ ∃ g c cells, e = .returned (.slice (some ⟨g, 0, none⟩) R.length c) ∧ w'.heap[g]? = some (.cells cells 30 (0, 0)) ∧
  ∀ (W : World) (i : Nat), i < R.length → W.heap[g]? = some (.cells cells 30 (0, 0)) → W.cell? ⟨g, i * 3, none⟩ = some (.int .i64 ((R.getD i z3).1 : Nat)) ∧ W.cell? ⟨g, i * 3 + 1, none⟩ = some (.int .i64 ((R.getD i z3).2.1 : Nat)) ∧ W.cell? ⟨g, i * 3 + 2, none⟩ = some (.int .i64 ((R.getD i z3).2.2 : Nat))
/-- Rows in memory. -/
structure QIn (w : World) (q : List (Nat × Nat × Nat)) (A : Option Addr) (n c : Nat) : Prop where
  len : q.length = n
  rise : RiseN 0 q
  few : q.length ≤ 1114112
  cap : q.length ≤ c
  mem : Kd.C k30 w A q.length (q.map toS)
theorem Tbl.qin {w : World} {v : Option Addr} {q : List (Nat × Nat × Nat)} {A : Option Addr} {n c : Nat} (h : Tbl w v q A n c) : QIn w q A n c := ⟨h.len, h.rise, h.few, h.cap, h.mem⟩
theorem QIn.runsAt2 {w : World} {q : List (Nat × Nat × Nat)} {A : Option Addr} {n c : Nat} (h : QIn w q A n c) : Calls Try.prog 16 #[.slice A n c] w (RunsAt2 w (runsN [] 0 q)) := by
  have hc := posternref08_Runs.calls (q.length + 1) A c (q.map toS) _ w (by rw [List.length_map]; exact h.mem) (by rw [List.length_map]; exact h.cap) (runs_f h.few h.rise)
  rw [List.length_map, h.len] at hc
  refine hc.mono ?_
  rintro e w' ⟨vS, rfl, hR, hb⟩
  have hpos := runsN_pos h.rise
  obtain ⟨A2, c2, hv⟩ := Kd.R_slice hR
  rw [List.length_map] at hv
  subst hv
  obtain ⟨g, cells, rfl, hcells, hbase⟩ := R_head hR (by rw [List.length_map]; exact hpos)
  refine ⟨hb, g, c2, cells, rfl, hcells, fun W i hi hW => ?_⟩
  obtain ⟨k0, k1, k2⟩ := R_cellsQ hR i hi
  have hW' := hW.trans hcells.symm
  exact ⟨(World.cell?_of_block (a := ⟨g, i * 3, none⟩) hW').trans k0, (World.cell?_of_block (a := ⟨g, i * 3 + 1, none⟩) hW').trans k1, (World.cell?_of_block (a := ⟨g, i * 3 + 2, none⟩) hW').trans k2⟩

/-- How things stand ahead of a block. -/
structure PkSt (w wr : World) (g : Nat) (cells : Array Value) (vU vI : Value) (ul : List (List Nat)) (ix : List Nat) : Prop where
  below : Below w.heap.size w wr
  runs : wr.heap[g]? = some (.cells cells 30 (0, 0))
  idx : Kd.R (Kd.int .i64) 3 wr w.heap.size (fun _ => True) vI (zl ix)
  ulk : Kd.R (Kd.slice 3 (Kd.int .i64)) 54 wr w.heap.size (fun k => some k ≠ vI.ownBlock) vU (ul.map zl)
theorem heap_lt {w : World} {g : Nat} {o : Obj} (h : w.heap[g]? = some o) : g < w.heap.size := (Array.getElem?_eq_some_iff.1 h).1
theorem PkSt.step {w wr w1 : World} {g : Nat} {cells : Array Value} {vU vI : Value} {ul : List (List Nat)} {ix : List Nat} (h : PkSt w wr g cells vU vI ul ix) (hb : Below wr.heap.size wr w1) : PkSt w w1 g cells vU vI ul ix :=
  ⟨h.below.trans (hb.mono h.below.size), (hb.block g (heap_lt h.runs)).trans h.runs, Kd.R_below h.idx hb, Kd.R_below h.ulk hb⟩
theorem own_lt' {α : Type} {d : Kd α} {e base : Nat} {w : World} {ok : Nat → Prop} {v : Value} {xs : List α} (h : d.R e w base ok v xs) {k : Nat} (hk : v.ownBlock = some k) : k < w.heap.size := by
  obtain ⟨inner, how⟩ := Kd.R_own h
  exact own_lt how k hk
theorem PkSt.push_idx {w wr w1 : World} {g : Nat} {cells : Array Value} {vU vI vI' : Value} {ul : List (List Nat)} {ix : List Nat} (h : PkSt w wr g cells vU vI ul ix) (n : Nat) (ho : Kd.R (Kd.int .i64) 3 w1 w.heap.size (fun _ => True) vI' (zl ix ++ [(n : Int)])) (hb : Below w.heap.size w w1) (hg : wr.grownBy w1 vI.ownBlock) (hat : vI'.ownBlock = vI.ownBlock ∨ ∃ b, vI'.ownBlock = some b ∧ wr.heap.size ≤ b) :
    PkSt w w1 g cells vU vI' ul (ix ++ [n]) := by
  have hu := Kd.R_grown (Kd.R_bound h.ulk) hg (fun k hk => hk.1)
  refine ⟨hb, (hg.block g (heap_lt h.runs) (Kd.R_ne h.idx h.runs (by decide))).trans h.runs, by rw [zl_append]; exact ho, Kd.R_mono hu (fun k hk => ?_)⟩
  obtain ⟨k1, k2, k3, _⟩ := hk
  rcases hat with e | ⟨b, e, hb'⟩
  · rw [e]; exact k1
  · rw [e]
    intro e'
    have : k = b := Option.some.inj e'
    omega
theorem PkSt.push_ul {w wr w1 : World} {g : Nat} {cells : Array Value} {vU vU' vI : Value} {ul : List (List Nat)} {ix : List Nat} {bk : List Nat} (h : PkSt w wr g cells vU vI ul ix) (ho : Kd.R (Kd.slice 3 (Kd.int .i64)) 54 w1 w.heap.size (fun k => some k ≠ vI.ownBlock) vU' (ul.map zl ++ [zl bk])) (hb : Below w.heap.size w w1) (hg : wr.grownBy w1 vU.ownBlock) :
    PkSt w w1 g cells vU' vI (ul ++ [bk]) ix := by
  refine ⟨hb, (hg.block g (heap_lt h.runs) (Kd.R_ne h.ulk h.runs (by decide))).trans h.runs, ?_, by rw [List.map_append]; exact ho⟩
  have hI : Kd.R (Kd.int .i64) 3 wr w.heap.size (fun k => vI.ownBlock = some k) vI (zl ix) := Kd.R_of_own (h1 := fun _ => rfl) (Kd.own_of_R h.idx) (fun k hk => hk)
  refine Kd.R_mono (Kd.R_grown hI hg (fun k hk e => ?_)) (fun _ _ => trivial)
  exact h.ulk.1 k e.symm hk.symm
/-- One of the unlike blocks. -/
theorem PkSt.at_ {w wr : World} {g : Nat} {cells : Array Value} {vI : Value} {A : Option Addr} {n c : Nat} {ul : List (List Nat)} {ix : List Nat} (h : PkSt w wr g cells (.slice A n c) vI ul ix) (i : Nat) (hi : i < ul.length) :
    ∃ ad A' c', A = some ad ∧ n = ul.length ∧ wr.cell? (ad.add i) = some (.slice A' (ul.getD i []).length c') ∧ Kd.C (Kd.int .i64) wr A' (ul.getD i []).length (zl (ul.getD i [])) := by
  obtain ⟨A1, c1, hv, _, hC⟩ := Kd.R_reads h.ulk
  injection hv with e1 e2 e3
  subst e1
  rw [List.length_map] at e2 hC
  obtain ⟨ad, cs, e4, hl, ⟨A', c', rfl, _, hC'⟩, hcell⟩ := Kd.C_get hC [] (i : Int) (by omega) (by omega)
  have hx : (ul.map zl).getD (i : Int).toNat [] = zl (ul.getD i []) := by
    simp [List.getD_eq_getElem?_getD, List.getElem?_map, List.getElem?_eq_getElem hi]
  rw [hx, zl_len] at hC' hcell
  have h0 := hcell 0 _ rfl
  have e5 : (i : Int).toNat * (Kd.slice 3 (Kd.int .i64)).sz + 0 = i := by rw [Int.toNat_natCast]; show i * 1 + 0 = i; omega
  rw [e5] at h0
  exact ⟨ad, A', c', e4, e2, h0, hC'⟩

/-- How things stand when bytes are told: nothing else is written any more. -/
structure OutSt (w wr : World) (vO : Value) (l : List Int) : Prop where
  below : Below w.heap.size w wr
  out : Kd.R (Kd.int .u8) 5 wr w.heap.size (fun _ => True) vO l
theorem OutSt.step {w wr w1 : World} {vO : Value} {l : List Int} (h : OutSt w wr vO l) (hb : Below wr.heap.size wr w1) : OutSt w w1 vO l :=
  ⟨h.below.trans (hb.mono h.below.size), Kd.R_below h.out hb⟩
theorem OutSt.push {w w1 : World} {vO' : Value} {l : List Int} (n : Nat) (ho : Kd.R (Kd.int .u8) 5 w1 w.heap.size (fun _ => True) vO' (l ++ [(n : Int) / 256, (n : Int) % 256])) (hb : Below w.heap.size w w1) : OutSt w w1 vO' (l ++ twoB n) := ⟨hb, ho⟩
theorem at_ulk {wr : World} {base : Nat} {ok : Nat → Prop} {A : Option Addr} {n c : Nat} {ul : List (List Nat)} (h : Kd.R (Kd.slice 3 (Kd.int .i64)) 54 wr base ok (.slice A n c) (ul.map zl)) (i : Nat) (hi : i < ul.length) :
    ∃ ad A' c', A = some ad ∧ n = ul.length ∧ wr.cell? (ad.add i) = some (.slice A' (ul.getD i []).length c') ∧ Kd.C (Kd.int .i64) wr A' (ul.getD i []).length (zl (ul.getD i [])) := by
  obtain ⟨A1, c1, hv, _, hC⟩ := Kd.R_reads h
  injection hv with e1 e2 e3
  subst e1
  rw [List.length_map] at e2 hC
  obtain ⟨ad, cs, e4, hl, ⟨A', c', rfl, _, hC'⟩, hcell⟩ := Kd.C_get hC [] (i : Int) (by omega) (by omega)
  have hx : (ul.map zl).getD (i : Int).toNat [] = zl (ul.getD i []) := by
    simp [List.getD_eq_getElem?_getD, List.getElem?_map, List.getElem?_eq_getElem hi]
  rw [hx, zl_len] at hC' hcell
  have h0 := hcell 0 _ rfl
  have e5 : (i : Int).toNat * (Kd.slice 3 (Kd.int .i64)).sz + 0 = i := by rw [Int.toNat_natCast]; show i * 1 + 0 = i; omega
  rw [e5] at h0
  exact ⟨ad, A', c', e4, e2, h0, hC'⟩

def PackDPost (w : World) (say : Nat → Nat) (e : Ending) (w' : World) : Prop := Below w.heap.size w w' ∧ e = .returned (.tuple #[.string (strOfNums (packT (tabSay say))), .int .i64 ((tabSay say).unlike.length : Nat)])

set_option maxRecDepth 100000 in
set_option maxHeartbeats 6400000 in
theorem packq_calls (w : World) {q : List (Nat × Nat × Nat)} {A : Option Addr} {n c : Nat} (h : QIn w q A n c) :
    Calls Try.prog 30 #[.slice A n c] w (PackDPost w (sayQ q)) := by
  have HTIL := Aside0.mk (show Til (sayQ q) 1114112 0 (runsN [] 0 q) from runsN_ok h.rise)
  have HBD := Aside0.mk (fun p (_ : p < 1114112) => sayQ_le h.rise p)
  have hRl := HTIL.out.length
  have hRp := runsN_pos h.rise
  have HRU := Aside0.mk h.runsAt2
  have infoI' := infoI
  have infoL' := infoL
  have infoB' := infoB
  clear h
  go_enter Try.func30, Try.ntmps30
  go_wp2_with fail
  refine HRU.out.mono ?_
  rintro e w1 ⟨hb1, g, c1, cells, rfl, hrun, hcell⟩
  have HB1 := Aside0.mk hb1
  have HRUN := Aside0.mk hrun
  have HCELL := Aside0.mk hcell
  clear hb1 hrun hcell HRU
  generalize hR : runsN [] 0 q = R at *
  have HRE := Aside0.mk hR
  generalize sayQ q = say at *
  clear hR
  go_wp2_with (first | ((with_reducible refine gate_dst (N := 23) rfl ?_); refine Kd.R_lit (Kd.slice 3 (Kd.int .i64)) _ 54 ?hg (N := 23) ?hd (xs := ([] : List (List Int))) (inner := []) (ok := fun _ => True) (okp := fun _ => True) ?hr ?hp (fun _ hk => hk) trivial (Below.refl _ _) (Nat.le_refl _) (by simp) ?_; (case hd => rfl); (case hg => rfl); (case hr => first | (go_simp; done) | (go_simp; rfl)); (case hp => exact (Reps.none _ _)); intro vU w2 ho2 hb2 hg2 hn2; have HU2 := Aside0.mk ho2; have HB2 := Aside0.mk hb2; clear hg2 hn2 ho2 hb2) | ((with_reducible refine gate_dst (N := 24) rfl ?_); refine Kd.R_lit (Kd.int .i64) _ 3 ?hg (N := 24) ?hd (xs := ([] : List Int)) (inner := []) (ok := fun _ => True) (okp := fun _ => True) ?hr ?hp (fun _ hk => hk) trivial (Below.refl _ _) (Nat.le_refl _) (by simp) ?_; (case hd => rfl); (case hg => rfl); (case hr => first | (go_simp; done) | (go_simp; rfl)); (case hp => exact (Reps.none _ _)); intro vI w3 ho3 hb3 hg3 hn3; have HI3 := Aside0.mk ho3; have HB3 := Aside0.mk hb3; clear hg3 hn3 ho3 hb3))
  have HP0 := Aside0.mk (show PkSt w w3 g cells vU vI (czB say 0).2 (czB say 0).1 from by
    have hb12 := HB2.out
    have hb13 := hb12.trans (HB3.out.mono hb12.size)
    refine ⟨HB1.out.trans (hb13.mono HB1.out.size), (hb13.block g (heap_lt HRUN.out)).trans HRUN.out, Kd.R_lower HI3.out (Nat.le_trans HB1.out.size hb12.size), ?_⟩
    refine Kd.R_lower (Kd.R_below (Kd.R_mono (Kd.R_bound HU2.out) (fun k hk e => ?_)) HB3.out) HB1.out.size
    obtain ⟨inner, how⟩ := Kd.R_own HI3.out
    have := own_base how k e.symm
    omega)
  clear HU2 HI3 HB2 HB3 HRUN
  go_wp2
  go_loopg [5, 6, 7, 8] 8705 (fun k v5 v6 v7 v8 wr => ∃ b t : Nat, b ≤ 8704 ∧ 8705 - b ≤ k ∧ v8 = .int .i64 (b : Int) ∧ v7 = .int .i64 (t : Int) ∧ Aside0 (InvR R t (128 * b)) ∧ Aside0 (PkSt w wr g cells v5 v6 (czB say b).2 (czB say b).1))
  case atStart => exact ⟨0, 0, by omega, by omega, rfl, rfl, ⟨hRp, by
    have := HTIL.out
    cases hR : R with
    | nil => rw [hR] at hRp; simp at hRp
    | cons x l => rw [hR] at this; have := this.1; simp; omega⟩, HP0⟩
  case round =>
    obtain ⟨b, t, hb, hbk, rfl, rfl, hT, hP⟩ := hrel
    clear HP0
    obtain ⟨gko, rfl⟩ : ∃ n, n = gk := ⟨_, rfl⟩
    by_cases hlt : b < 8704
    · have hlt' : (b : Int) < 8704 := by omega
      obtain ⟨wo, rfl⟩ : ∃ x, x = wr := ⟨_, rfl⟩
      go_wp2
      go_loopg [7] (R.length + 1) (fun k v7 wr => ∃ t2 : Nat, R.length + 1 - t2 ≤ k ∧ v7 = .int .i64 (t2 : Int) ∧ Aside0 (InvR R t2 (128 * b)) ∧ wr = wo)
      case atStart => exact ⟨t, by omega, rfl, hT, rfl⟩
      case round =>
        obtain ⟨t2, htk, rfl, hT2, rfl⟩ := hrel
        clear hT
        have htl := hT2.out.1
        have htl' : (t2 : Int) < (R.length : Int) := by omega
        obtain ⟨x0, x1, x2⟩ := HCELL.out wr t2 htl hP.out.runs
        by_cases hgo : (R.getD t2 z3).2.1 < 128 * b
        · have HT3 := Aside0.mk (hT2.out.go HTIL.out (by omega) hgo)
          have hgo' : (((R.getD t2 z3).2.1 : Nat) : Int) < 128 * (b : Int) := by omega
          generalize (R.getD t2 z3).2.1 = y1 at *
          clear x0 x2
          go_wp2
          go_roundg (gk - 1)
          case measure => omega
          case rel => exact ⟨t2 + 1, by omega, by go_num, HT3, rfl⟩
        · have hgo' : ¬ (((R.getD t2 z3).2.1 : Nat) : Int) < 128 * (b : Int) := by omega
          have hsay := (HTIL.out.get t2 htl).1
          have hinv := hT2.out.2
          have HT2 := hT2
          have HTN := Aside0.mk (show InvR R t2 (128 * (b + 1)) from ⟨htl, by omega⟩)
          generalize hyy : (R.getD t2 z3).2.1 = y1 at *
          generalize hy0 : (R.getD t2 z3).1 = y0 at *
          clear hyy hy0
          have HSAY := Aside0.mk hsay
          clear hsay x2 hgo hT2
          by_cases hsame : 0 < b ∧ y0 + 128 ≤ 128 * b ∧ 128 * b + 127 ≤ y1
          · obtain ⟨s1, s2, s3⟩ := hsame
            have s1' : (0 : Int) < (b : Int) := by omega
            have s2' : (y0 : Int) ≤ 128 * (b : Int) - 128 := by omega
            have s3' : 128 * (b : Int) + 127 ≤ (y1 : Int) := by omega
            obtain ⟨z1, z2, z3', z4, z5, z6⟩ := czB_ok say b (by omega)
            have HCZ := Aside0.mk (czB_same say b s1 hlt (by
              rw [blkOf_const (n := (R.getD t2 z3).2.2) (fun j hj => HSAY.out (128 * b + j) (by omega) (by omega)), blkOf_const (n := (R.getD t2 z3).2.2) (fun j hj => HSAY.out (128 * (b - 1) + j) (by omega) (by omega))]))
            have hl6 : (zl (czB say b).1).length = b := by rw [zl_len]; exact z1
            obtain ⟨A6, c6, rfl, _, hC6⟩ := Kd.R_reads hP.out.idx
            rw [hl6] at hC6 ⊢
            obtain ⟨ad, rfl, k0⟩ := Kd.at_int hC6 ((b - 1 : Nat) : Int) (by omega) (by omega)
            rw [zl_get _ _ (by omega), Int.toNat_natCast] at k0
            have hpw := hP.out
            rw [hl6] at hpw
            have HPW := Aside0.mk hpw
            clear hpw
            have HL6 := Aside0.mk hl6
            have eb1 : ((b : Int) - 1) = ((b - 1 : Nat) : Int) := by omega
            generalize hbm : b - 1 = bm at *
            have HBM := Aside0.mk hbm
            generalize (czB say b).1.getD bm 0 = ib at *
            have hbm0 : 0 ≤ (bm : Int) := Int.natCast_nonneg _
            have hbm1 : (bm : Int) < (b : Int) := by omega
            clear z1 z2 z3' z4 z5 z6 hl6 hC6 hP hbm HSAY
            go_wp2_with (first | ((with_reducible refine gate_builtin (b := .append) (xs := #[.tmp 62, .tmp 68]) rfl ?_); at_builtin; refine Kd.R_append (Kd.int .i64) (w0 := w) w.heap.size rfl (.tmp 62) (.tmp 68) 54 3 (.int .i64 0) 8 rfl Try.underlying54 infoI' rfl (by decide) (by decide) _ (zl (czB say b).1) (ib : Int) [.int .i64 (ib : Int)] (fun _ => True) (fun _ => False) rfl (by first | (go_simp; done) | (go_simp; rfl)) rfl (fun _ hk => hk.elim) (fun _ _ => trivial) HPW.out.idx HPW.out.below HPW.out.below.size (by have h := HL6.out; omega) ?_; intro v5 w5 ho5 hb5 hg5 hat5; have HP5 := Aside0.mk (HPW.out.push_idx ib ho5 hb5 hg5 hat5); clear ho5 hb5 hg5 hat5))
            go_roundg (gko - 1)
            case measure => omega
            case rel => exact ⟨b + 1, t2, by omega, by omega, by go_num, rfl, HTN, ⟨by rw [HCZ.out]; exact HP5.out⟩⟩
          · have HPW := hP
            have hs3 : b = 0 ∨ (0 < b ∧ ¬ y0 + 128 ≤ 128 * b) ∨ (0 < b ∧ y0 + 128 ≤ 128 * b ∧ ¬ 128 * b + 127 ≤ y1) := by omega
            clear hsame hP HSAY
            go_upto_region 11 with fail
            go_cut [61] from 40 to 61 (fun v61 wx => v61 = .bool false ∧ wr = wx)
            case first =>
              rcases hs3 with h1 | ⟨h1, h2⟩ | ⟨h1, h2, h3⟩
              · subst h1
                go_wp2_with fail
                go_meet
                exact ⟨rfl, rfl⟩
              · have h1' : (0 : Int) < (b : Int) := by omega
                have h2' : ¬ (y0 : Int) ≤ 128 * (b : Int) - 128 := by omega
                go_wp2_with fail
                go_meet
                exact ⟨rfl, rfl⟩
              · have h1' : (0 : Int) < (b : Int) := by omega
                have h2' : (y0 : Int) ≤ 128 * (b : Int) - 128 := by omega
                have h3' : ¬ 128 * (b : Int) + 127 ≤ (y1 : Int) := by omega
                go_wp2_with fail
                go_meet
                exact ⟨rfl, rfl⟩
            case rest =>
              obtain ⟨rfl, rfl⟩ := hcut
              obtain ⟨wb, rfl⟩ : ∃ x, x = wr := ⟨_, rfl⟩
              clear hs3 x0 x1 hgo' hinv
              go_wp2_with (first | ((with_reducible refine gate_dst (N := 70) rfl ?_); refine Kd.R_lit (Kd.int .i64) _ 3 ?hg (N := 70) ?hd (xs := ([] : List Int)) (inner := []) (ok := fun _ => True) (okp := fun _ => True) ?hr ?hp (fun _ hk => hk) trivial (Below.refl _ _) (Nat.le_refl _) (by simp) ?_; (case hd => rfl); (case hg => rfl); (case hr => first | (go_simp; done) | (go_simp; rfl)); (case hp => exact (Reps.none _ _)); intro vB w4 ho4 hb4 hg4 hn4; have HO4 := Aside0.mk ho4; have HB4 := Aside0.mk hb4; clear hg4 hn4 ho4 hb4))
              have HBK0 := Aside0.mk (show Kd.R (Kd.int .i64) 3 w4 wb.heap.size (fun _ => True) vB (zl ((blkOf say b).take 0)) from HO4.out)
              clear HO4
              go_loopg [10, 11, 12] 129 (fun kk v10 v11 v12 wr => ∃ j k2 : Nat, j ≤ 128 ∧ 129 - j ≤ kk ∧ v12 = .int .i64 (128 * (b : Int) + (j : Int)) ∧ v11 = .int .i64 (k2 : Int) ∧ Aside0 (InvR R k2 (128 * b + j)) ∧ Aside0 (Kd.R (Kd.int .i64) 3 wr wb.heap.size (fun _ => True) v10 (zl ((blkOf say b).take j))) ∧ Aside0 (Below wb.heap.size wb wr))
              case atStart => exact ⟨0, t2, by omega, by omega, by simp, rfl, HT2, HBK0, HB4⟩
              case round =>
                obtain ⟨j, k2, hj, hjk, rfl, rfl, hI, hO, hB⟩ := hrel
                clear HBK0 HB4
                obtain ⟨g2, rfl⟩ : ∃ n, n = gk := ⟨_, rfl⟩
                by_cases hjl : j < 128
                · have hjl' : 128 * (b : Int) + (j : Int) < 128 * (b : Int) + 128 := by omega
                  obtain ⟨wi, rfl⟩ : ∃ x, x = wr := ⟨_, rfl⟩
                  go_wp2
                  go_loopg [11] (R.length + 1) (fun kk v11 wr => ∃ k3 : Nat, R.length + 1 - k3 ≤ kk ∧ v11 = .int .i64 (k3 : Int) ∧ Aside0 (InvR R k3 (128 * b + j)) ∧ wr = wi)
                  case atStart => exact ⟨k2, by omega, rfl, hI, rfl⟩
                  case round =>
                    obtain ⟨k3, hkk3, rfl, hI3, rfl⟩ := hrel
                    clear hI
                    have hkl := hI3.out.1
                    have hkl' : (k3 : Int) < (R.length : Int) := by omega
                    obtain ⟨x0, x1, x2⟩ := HCELL.out wr k3 hkl ((HPW.out.step hB.out).runs)
                    by_cases hgo : (R.getD k3 z3).2.1 < 128 * b + j
                    · have HI4 := Aside0.mk (hI3.out.go HTIL.out (by omega) hgo)
                      have hgo' : (((R.getD k3 z3).2.1 : Nat) : Int) < 128 * (b : Int) + (j : Int) := by omega
                      generalize (R.getD k3 z3).2.1 = y1' at *
                      clear x0 x2
                      go_wp2
                      go_roundg (gk - 1)
                      case measure => omega
                      case rel => exact ⟨k3 + 1, by omega, by go_num, HI4, rfl⟩
                    · have hgo' : ¬ (((R.getD k3 z3).2.1 : Nat) : Int) < 128 * (b : Int) + (j : Int) := by omega
                      have hsp := hI3.out.say HTIL.out (show 128 * b + j ≤ (R.getD k3 z3).2.1 by omega)
                      have HI4 := Aside0.mk (show InvR R k3 (128 * b + (j + 1)) from ⟨hI3.out.1, by have := hI3.out.2; omega⟩)
                      have htk : zl ((blkOf say b).take (j + 1)) = zl ((blkOf say b).take j) ++ [(((R.getD k3 z3).2.2 : Nat) : Int)] := by
                        rw [List.take_succ_eq_append_getElem (show j < (blkOf say b).length by rw [blkOf_len]; exact hjl), zl_append]
                        have e := blkOf_get say b j hjl
                        rw [List.getD_eq_getElem?_getD, List.getElem?_eq_getElem (show j < (blkOf say b).length by rw [blkOf_len]; exact hjl), Option.getD_some] at e
                        rw [e, hsp]
                        rfl
                      have hxl : (zl ((blkOf say b).take j)).length ≤ 128 := by rw [zl_len, List.length_take]; omega
                      have HTK := Aside0.mk htk
                      generalize zl ((blkOf say b).take j) = xs at *
                      generalize (R.getD k3 z3).2.2 = nn at *
                      generalize (R.getD k3 z3).2.1 = y1' at *
                      clear x0 hsp htk hI3 hgo
                      go_wp2_with (first | ((with_reducible refine gate_builtin (b := .append) (xs := #[.tmp 88, .tmp 94]) rfl ?_); at_builtin; refine Kd.R_append (Kd.int .i64) (w0 := wb) wb.heap.size rfl (.tmp 88) (.tmp 94) 54 3 (.int .i64 0) 8 rfl Try.underlying54 infoI' rfl (by decide) (by decide) _ xs (nn : Int) [.int .i64 (nn : Int)] (fun _ => True) (fun _ => False) rfl (by first | (go_simp; done) | (go_simp; rfl)) rfl (fun _ hk => hk.elim) (fun _ _ => trivial) hO.out hB.out hB.out.size (by omega) ?_; intro v5 w5 ho5 hb5 hg5 hat5; have HO5 := Aside0.mk ho5; have HB5 := Aside0.mk hb5; clear ho5 hb5 hg5 hat5))
                      go_roundg (g2 - 1)
                      case measure => omega
                      case rel => exact ⟨j + 1, k3, by omega, by omega, by go_num, rfl, HI4, ⟨by rw [HTK.out]; exact HO5.out⟩, HB5⟩
                · have hjl' : ¬ 128 * (b : Int) + (j : Int) < 128 * (b : Int) + 128 := by omega
                  obtain rfl : j = 128 := by omega
                  have hbk := hO.out
                  rw [List.take_of_length_le (by rw [blkOf_len]; exact Nat.le_refl _)] at hbk
                  have HPS := Aside0.mk (HPW.out.step hB.out)
                  have HLTI := Aside0.mk (fun k (hk : u6.ownBlock = some k) => own_lt' HPW.out.idx hk)
                  have HLTU := Aside0.mk (fun k (hk : u5.ownBlock = some k) => own_lt' HPW.out.ulk hk)
                  have HWB := Aside0.mk HPW.out.below.size
                  have HOB := Aside0.mk hbk
                  have HBB := hB
                  clear hbk hO hB hI HPW
                  obtain ⟨z1, z2, z3', z4, z5, z6⟩ := czB_ok say b (by omega)
                  have HCS := Aside0.mk (czB_succ say b hlt)
                  have hil := idxB_le (blkOf say b) (czB say b).2
                  have HIF := Aside0.mk (fun j => idxB_first (bk := blkOf say b) (l := (czB say b).2) (j := j))
                  have HIG := Aside0.mk (idxB_get (blkOf say b) (czB say b).2)
                  have HZ4 := Aside0.mk z4
                  have HZ1 := Aside0.mk z1
                  have hbkl := blkOf_len say b
                  have HBKL := Aside0.mk hbkl
                  clear z1 z3' z4 z5 z6 hbkl
                  obtain ⟨Au, cu, rfl⟩ := Kd.R_slice HPS.out.ulk
                  have hul : ((czB say b).2.map zl).length = (czB say b).2.length := List.length_map ..
                  rw [hul] at HPS HLTU ⊢
                  obtain ⟨Ab, cb, rfl⟩ := Kd.R_slice HOB.out
                  rw [show (zl (blkOf say b)).length = 128 by rw [zl_len, HBKL.out]] at HOB ⊢
                  have hCB : Kd.C (Kd.int .i64) wr Ab 128 (zl (blkOf say b)) := by
                    obtain ⟨A', c', hv, _, hC⟩ := Kd.R_reads HOB.out
                    injection hv with e1 e2 e3
                    subst e1
                    rw [zl_len, HBKL.out] at hC
                    exact hC
                  have HCB := Aside0.mk hCB
                  generalize blkOf say b = bk at *
                  generalize hulx : (czB say b).2 = ul at *
                  generalize hixx : (czB say b).1 = ix at *
                  have HCZ := Aside0.mk (show czB say (b + 1) = (ix ++ [idxB bk ul], if idxB bk ul < ul.length then ul else ul ++ [bk]) from by rw [HCS.out, ← hulx, ← hixx]; rfl)
                  clear hulx hixx HCS hul hCB
                  generalize idxB bk ul = ib at *
                  obtain ⟨wq, rfl⟩ : ∃ x, x = wr := ⟨_, rfl⟩
                  go_wp2
                  go_loopg [13] (ul.length + 1) (fun kk v13 wr => ∃ n2 m : Nat, ul.length + 1 - n2 ≤ kk ∧ v13 = .int .i64 (n2 : Int) ∧ n2 ≤ ib ∧ wr = wq.drewN m)
                  case atStart => exact ⟨0, 0, by omega, rfl, by omega, rfl⟩
                  case round =>
                    obtain ⟨n2, m, hnk, rfl, hni, rfl⟩ := hrel
                    have hbd : Below wq.heap.size wq (wq.drewN m) := pw_below_drewN (Below.refl _ _) m
                    have HPM := Aside0.mk (HPS.out.step hbd)
                    have HCM := Aside0.mk (Kd.C_below HCB.out hbd)
                    have HOM := Aside0.mk (Kd.R_below HOB.out hbd)
                    have HBM := Aside0.mk (HBB.out.trans (hbd.mono HBB.out.size))
                    by_cases hn : n2 < ul.length
                    · have hn' : (n2 : Int) < (ul.length : Int) := by omega
                      obtain ⟨ad, A', c', rfl, _, k0, k1⟩ := HPM.out.at_ n2 hn
                      have hl1 : (ul.getD n2 []).length = 128 := HZ4.out _ (by rw [List.getD_eq_getElem?_getD, List.getElem?_eq_getElem hn]; exact List.getElem_mem hn)
                      have hal := alike_calls (wq.drewN m) (A := A') (B := Ab) (c := c') (d := cb) (ul.getD n2 []) bk (by rw [hl1, HBKL.out]) (by omega) k1 (by rw [HBKL.out]; exact HCM.out)
                      rw [hl1] at hal k0
                      rw [HBKL.out] at hal
                      have HAL := Aside0.mk hal
                      clear hal k1 hbd hl1
                      by_cases he : ul.getD n2 [] = bk
                      · have hx := HIF.out n2 hn he
                        obtain rfl : n2 = ib := by omega
                        rw [decide_eq_true he] at HAL
                        clear he hx
                        have hne : ((n2 : Int) == (ul.length : Int)) = false := by rw [beq_eq_false_iff_ne]; omega
                        have HCZ2 := Aside0.mk (show czB say (b + 1) = (ix ++ [n2], ul) from by rw [HCZ.out, if_pos hn])
                        go_wp2_with fail
                        refine HAL.out.mono ?_
                        rintro e w7 ⟨rfl, m2, rfl⟩
                        have HP7 := Aside0.mk (HPS.out.step (pw_below_drewN (Below.refl wq.heap.size wq) (m + m2)))
                        clear HAL HPM HCM HOM HBM HCZ
                        rw [World.drewN_drewN]
                        generalize wq.drewN (m + m2) = w7 at *
                        go_wp2_with (first | ((with_reducible refine gate_builtin (b := .append) (xs := #[.tmp 119, .tmp 121]) rfl ?_); at_builtin; refine Kd.R_append (Kd.int .i64) (w0 := w) w.heap.size rfl (.tmp 119) (.tmp 121) 54 3 (.int .i64 0) 8 rfl Try.underlying54 infoI' rfl (by decide) (by decide) _ (zl ix) (n2 : Int) [.int .i64 (n2 : Int)] (fun _ => True) (fun _ => False) rfl (by first | (go_simp; done) | (go_simp; rfl)) rfl (fun _ hk => hk.elim) (fun _ _ => trivial) HP7.out.idx HP7.out.below HP7.out.below.size (by rw [zl_len, HZ1.out]; omega) ?_; intro v9 w9 ho9 hb9 hg9 hat9; have HP9 := Aside0.mk (HP7.out.push_idx n2 ho9 hb9 hg9 hat9); clear ho9 hb9 hg9 hat9))
                        go_roundg (gko - 1)
                        case measure => omega
                        case rel => exact ⟨b + 1, t2, by omega, by omega, by go_num, rfl, HTN, ⟨by rw [HCZ2.out]; exact HP9.out⟩⟩
                      · rw [decide_eq_false he] at HAL
                        have hne : n2 ≠ ib := fun e => he (by subst e; exact HIG.out hn)
                        have hni2 : n2 + 1 ≤ ib := by omega
                        clear he hne
                        go_wp2_with fail
                        refine HAL.out.mono ?_
                        rintro e w7 ⟨rfl, m2, rfl⟩
                        go_wp2
                        go_roundg (gk - 1)
                        case measure => omega
                        case rel => exact ⟨n2 + 1, _, by omega, by go_num, hni2, rfl⟩
                    · have hn' : ¬ (n2 : Int) < (ul.length : Int) := by omega
                      obtain rfl : n2 = ul.length := by omega
                      have hne : ((ul.length : Int) == (ul.length : Int)) = true := by simp
                      have HCZ2 := Aside0.mk (show czB say (b + 1) = (ix ++ [ul.length], ul ++ [bk]) from by rw [HCZ.out, if_neg (by omega), show ib = ul.length by omega])
                      have HHP := Aside0.mk (show ∃ v, ([.slice Ab 128 cb] : List Value) = [v] ∧ Kd.R (Kd.int .i64) 3 (wq.drewN m) w.heap.size (fun k => wb.heap.size ≤ k) v (zl bk) from ⟨_, rfl, Kd.R_lower (Kd.R_mono (Kd.R_bound HOM.out) (fun k hk => hk.2.1)) HWB.out⟩)
                      have HUL := Aside0.mk (show (ul.map zl).length = ul.length from List.length_map ..)
                      clear hbd HCM HOM HCZ HCB
                      generalize wq.drewN m = w7 at *
                      go_wp2_with (first | ((with_reducible refine gate_builtin (b := .append) (xs := #[.tmp 115, .tmp 117]) rfl ?_); at_builtin; refine Kd.R_append (Kd.slice 3 (Kd.int .i64)) (w0 := w) w.heap.size rfl (.tmp 115) (.tmp 117) 110 54 (.slice none 0 0) 24 rfl Try.underlying110 infoL' rfl (by decide) (by decide) _ (ul.map zl) (zl bk) [.slice Ab 128 cb] (fun k => some k ≠ u6.ownBlock) (fun k => wb.heap.size ≤ k) rfl (by first | (go_simp; done) | (go_simp; rfl)) HHP.out (fun k hk => ⟨fun e => by have := HLTI.out k e.symm; omega, fun e => by have := HLTU.out k e.symm; omega⟩) (fun k hk e => by have h1 := HLTI.out k e.symm; have h2 := HBM.out.size; omega) HPM.out.ulk HPM.out.below HPM.out.below.size (by rw [HUL.out]; omega) ?_; intro v8 w8 ho8 hb8 hg8 hat8; have HP8 := Aside0.mk (HPM.out.push_ul ho8 hb8 hg8); clear ho8 hb8 hg8 hat8) | ((with_reducible refine gate_builtin (b := .append) (xs := #[.tmp 119, .tmp 121]) rfl ?_); at_builtin; refine Kd.R_append (Kd.int .i64) (w0 := w) w.heap.size rfl (.tmp 119) (.tmp 121) 54 3 (.int .i64 0) 8 rfl Try.underlying54 infoI' rfl (by decide) (by decide) _ (zl ix) (ul.length : Int) [.int .i64 (ul.length : Int)] (fun _ => True) (fun _ => False) rfl (by first | (go_simp; done) | (go_simp; rfl)) rfl (fun _ hk => hk.elim) (fun _ _ => trivial) HP8.out.idx HP8.out.below HP8.out.below.size (by rw [zl_len, HZ1.out]; omega) ?_; intro v9 w9 ho9 hb9 hg9 hat9; have HP9 := Aside0.mk (HP8.out.push_idx ul.length ho9 hb9 hg9 hat9); clear ho9 hb9 hg9 hat9))
                      go_roundg (gko - 1)
                      case measure => omega
                      case rel => exact ⟨b + 1, t2, by omega, by omega, by go_num, rfl, HTN, ⟨by rw [HCZ2.out]; exact HP9.out⟩⟩
    · have hlt' : ¬ (b : Int) < 8704 := by omega
      obtain rfl : b = 8704 := by omega
      obtain ⟨z1, z2, z3', z4, z5, z6⟩ := czB_ok say 8704 (Nat.le_refl _)
      obtain ⟨e1, e2⟩ := czB_all say
      have hpk : ∀ t : Tab, t.which = (czB say 8704).1 → t.unlike = (czB say 8704).2 → packT t = twoB (czB say 8704).2.length ++ (czB say 8704).1.flatMap twoB ++ (czB say 8704).2.flatMap (fun b => b.flatMap twoB) := fun t h1 h2 => by unfold packT; rw [h1, h2]
      have HPK := Aside0.mk (hpk (tabSay say) e1.symm e2.symm)
      have HUL := Aside0.mk e2
      obtain ⟨Au, cu, rfl⟩ := Kd.R_slice hP.out.ulk
      obtain ⟨Ai, ci, rfl⟩ := Kd.R_slice hP.out.idx
      have hst : Kd.R (Kd.slice 3 (Kd.int .i64)) 54 wr w.heap.size (fun _ => True) (.slice Au ((czB say 8704).2.map zl).length cu) ((czB say 8704).2.map zl) := Kd.R_mono hP.out.ulk (fun _ _ => trivial)
      have hsi := hP.out.idx
      have hul : ((czB say 8704).2.map zl).length = (czB say 8704).2.length := List.length_map ..
      rw [hul] at hst ⊢
      rw [show (zl (czB say 8704).1).length = 8704 by rw [zl_len, z1]] at hsi ⊢
      have HST := Aside0.mk hst
      have HSI := Aside0.mk hsi
      have HBW := Aside0.mk hP.out.below
      have HZ4 := Aside0.mk z4
      have HZ1 := Aside0.mk z1
      have HIX := Aside0.mk (fun i hi => by
        have h := (z5 i hi).1
        omega : ∀ i, i < 8704 → (czB say 8704).1.getD i 0 ≤ 8704)
      have HNU := Aside0.mk (fun (i j : Nat) (hi : i < (czB say 8704).2.length) (hj : j < 128) => (show ((czB say 8704).2.getD i []).getD j 0 ≤ 65535 from by
        obtain ⟨m, hm, hx⟩ := z6 ((czB say 8704).2.getD i []) (by rw [List.getD_eq_getElem?_getD, List.getElem?_eq_getElem hi]; exact List.getElem_mem hi)
        rw [hx, blkOf_get _ _ _ hj]
        exact HBD.out _ (by omega)))
      clear hst hsi hul z1 z3' z4 z5 z6 e1 e2 hpk hP hT
      generalize (czB say 8704).2 = ul at *
      generalize (czB say 8704).1 = ix at *
      obtain ⟨W0, rfl⟩ : ∃ x, x = wr := ⟨_, rfl⟩
      go_wp2_with (first | ((with_reducible refine gate_dst (N := 131) rfl ?_); refine Kd.R_lit (Kd.int .u8) _ 5 ?hg (N := 131) ?hd (xs := ([(ul.length : Int) / 256, (ul.length : Int) % 256] : List Int)) (inner := [.int .u8 ((ul.length : Int) / 256), .int .u8 ((ul.length : Int) % 256)]) (ok := fun _ => True) (okp := fun _ => True) ?hr ?hp (fun _ hk => hk) trivial (Below.refl _ _) (Nat.le_refl _) (by simp) ?_; (case hd => rfl); (case hg => rfl); (case hr => first | (go_simp; done) | (go_simp; rfl)); (case hp => exact Kd.reps_scalar (enc := Value.int .u8) [(ul.length : Int) / 256, (ul.length : Int) % 256]); intro vO w4 ho4 hb4 hg4 hn4; have HO4 := Aside0.mk (show OutSt W0 w4 vO (twoB ul.length) from ⟨hb4, ho4⟩); clear hg4 hn4 ho4 hb4))
      go_loopg [14, 134] 8705 (fun kk v14 v134 wr => ∃ i : Nat, i ≤ 8704 ∧ 8705 - i ≤ kk ∧ v134 = .int .i64 (i : Int) ∧ Aside0 (OutSt W0 wr v14 (twoB ul.length ++ (ix.take i).flatMap twoB)))
      case atStart => exact ⟨0, by omega, by omega, rfl, ⟨by rw [List.take_zero]; exact (List.append_nil (twoB ul.length)).symm ▸ HO4.out⟩⟩
      case round =>
        obtain ⟨i, hi, hik, rfl, hS⟩ := hrel
        clear HO4
        by_cases hil : i < 8704
        · have hil' : (i : Int) < 8704 := by omega
          have hx := HIX.out i hil
          have hsn := flat_two_snoc ix i (by rw [HZ1.out]; exact hil)
          have hxl : (twoB ul.length ++ (ix.take i).flatMap twoB).length ≤ 20000 := by rw [List.length_append, flat_two, twoB_len, List.length_take]; omega
          obtain ⟨ad, e4, k0⟩ : ∃ ad, Ai = some ad ∧ wr.cell? (ad.add i) = some (.int .i64 (ix.getD i 0 : Nat)) := by
            obtain ⟨A', c', hv, _, hC⟩ := Kd.R_reads (Kd.R_below HSI.out hS.out.below)
            injection hv with e1 e2 e3
            subst e1
            rw [zl_len, HZ1.out] at hC
            obtain ⟨ad, e4, k0⟩ := Kd.at_int hC (i : Int) (by omega) (by omega)
            rw [zl_get _ _ (by rw [HZ1.out]; exact hil), Int.toNat_natCast] at k0
            exact ⟨ad, e4, k0⟩
          generalize ix.getD i 0 = x at *
          have HSN := Aside0.mk (congrArg (twoB ul.length ++ ·) hsn)
          simp only [← List.append_assoc] at HSN
          have HSS := Aside0.mk (hS.out.step (below_alloc (Below.refl wr.heap.size wr) (.cells #[.int .u8 ((x : Int) / 256), .int .u8 ((x : Int) % 256)] 5)))
          have HTW := Aside0.mk (two_reads wr ((x : Int) / 256) ((x : Int) % 256) 5)
          generalize twoB ul.length ++ (ix.take i).flatMap twoB = xs at *
          subst e4
          clear hsn hS
          go_wp2_with (first | ((with_reducible refine gate_builtin (b := .append) (xs := #[.tmp 138, .tmp 145]) rfl ?_); at_builtin; refine Kd.R_append_rows (Kd.int .u8) (w0 := W0) W0.heap.size rfl (.tmp 138) (.tmp 145) 55 5 (.int .u8 0) 1 rfl Try.underlying55 infoB' rfl (by decide) (by decide) _ xs [(x : Int) / 256, (x : Int) % 256] _ _ _ (fun _ => True) (fun _ => False) rfl rfl HSS.out.out HTW.out (fun _ _ h => h) (fun _ h => h.elim) (fun _ _ => trivial) HSS.out.below HSS.out.below.size (by omega) ?_; intro v9 w9 ho9 hb9 hg9 hat9; have HP9 := Aside0.mk (OutSt.push x ho9 hb9); clear ho9 hb9 hg9 hat9))
          go_roundg (gk - 1)
          case measure => omega
          case rel => exact ⟨i + 1, by omega, by omega, by go_num, ⟨by rw [HSN.out]; exact HP9.out⟩⟩
        · have hil' : ¬ (i : Int) < 8704 := by omega
          obtain rfl : i = 8704 := by omega
          have hst := hS.out
          rw [List.take_of_length_le (by rw [HZ1.out]; exact Nat.le_refl _)] at hst
          have hpre : (twoB ul.length ++ ix.flatMap twoB).length = 17410 := by rw [List.length_append, flat_two, twoB_len, HZ1.out]
          have HSQ := Aside0.mk hst
          generalize twoB ul.length ++ ix.flatMap twoB = pre at *
          clear hst hS
          go_wp2
          go_loopg [14, 150] (ul.length + 1) (fun kk v14 v150 wr => ∃ i2 : Nat, i2 ≤ ul.length ∧ ul.length + 1 - i2 ≤ kk ∧ v150 = .int .i64 (i2 : Int) ∧ Aside0 (OutSt W0 wr v14 (pre ++ (ul.take i2).flatMap (fun b => b.flatMap twoB))))
          case atStart => exact ⟨0, by omega, by omega, rfl, ⟨by rw [List.take_zero]; exact (List.append_nil pre).symm ▸ HSQ.out⟩⟩
          case round =>
            obtain ⟨i2, hi2, hi2k, rfl, hS⟩ := hrel
            clear HSQ
            obtain ⟨g3, rfl⟩ : ∃ n, n = gk := ⟨_, rfl⟩
            by_cases hil2 : i2 < ul.length
            · have hil2' : (i2 : Int) < (ul.length : Int) := by omega
              obtain ⟨ad, A', c', e4, _, k0, k1⟩ := at_ulk HST.out i2 hil2
              have hl1 : (ul.getD i2 []).length = 128 := HZ4.out _ (by rw [List.getD_eq_getElem?_getD, List.getElem?_eq_getElem hil2]; exact List.getElem_mem hil2)
              rw [hl1] at k0 k1
              have hsn := flat_blocks_snoc ul i2 hil2
              have hfl := flat_blocks_len (ul.take i2) (fun b hb => HZ4.out b (List.mem_of_mem_take hb))
              rw [List.length_take] at hfl
              have HN := Aside0.mk (fun j hj => HNU.out i2 j hil2 hj)
              have HK1 := Aside0.mk k1
              replace k0 := pw_cell_below hS.out.below k0
              have HL1 := Aside0.mk hl1
              have HSN := Aside0.mk (congrArg (pre ++ ·) hsn)
              simp only [← List.append_assoc] at HSN
              have hpl : (pre ++ (ul.take i2).flatMap (fun b => b.flatMap twoB)).length ≤ 3000000 := by rw [List.length_append, hpre, hfl]; omega
              generalize ul.getD i2 [] = bl at *
              have HSO := Aside0.mk hS.out
              generalize pre ++ (ul.take i2).flatMap (fun b => b.flatMap twoB) = pre2 at *
              clear hsn hfl hl1 k1 hS
              subst e4
              obtain ⟨wi, rfl⟩ : ∃ x, x = wr := ⟨_, rfl⟩
              go_wp2
              go_loopg [14, 156] 129 (fun kk v14 v156 wr => ∃ j : Nat, j ≤ 128 ∧ 129 - j ≤ kk ∧ v156 = .int .i64 (j : Int) ∧ Aside0 (OutSt W0 wr v14 (pre2 ++ (bl.take j).flatMap twoB)))
              case atStart => exact ⟨0, by omega, by omega, rfl, ⟨by rw [List.take_zero]; exact (List.append_nil pre2).symm ▸ HSO.out⟩⟩
              case round =>
                obtain ⟨j, hj, hjk, rfl, hS⟩ := hrel
                clear HSO
                by_cases hjl : j < 128
                · have hjl' : (j : Int) < 128 := by omega
                  have hx := HN.out j hjl
                  have hsn := flat_two_snoc bl j (by rw [HL1.out]; exact hjl)
                  have hxl : (pre2 ++ (bl.take j).flatMap twoB).length ≤ 4000000 := by rw [List.length_append, flat_two, List.length_take]; omega
                  obtain ⟨ad3, e5, k3⟩ := Kd.at_int (Kd.C_below HK1.out hS.out.below) (j : Int) (by omega) (by omega)
                  rw [zl_get _ _ (by rw [HL1.out]; exact hjl), Int.toNat_natCast] at k3
                  generalize bl.getD j 0 = x at *
                  have HSN2 := Aside0.mk (congrArg (pre2 ++ ·) hsn)
                  simp only [← List.append_assoc] at HSN2
                  have HSS := Aside0.mk (hS.out.step (below_alloc (Below.refl wr.heap.size wr) (.cells #[.int .u8 ((x : Int) / 256), .int .u8 ((x : Int) % 256)] 5)))
                  have HTW := Aside0.mk (two_reads wr ((x : Int) / 256) ((x : Int) % 256) 5)
                  generalize pre2 ++ (bl.take j).flatMap twoB = xs at *
                  subst e5
                  clear hsn hS
                  go_wp2_with (first | ((with_reducible refine gate_builtin (b := .append) (xs := #[.tmp 160, .tmp 167]) rfl ?_); at_builtin; refine Kd.R_append_rows (Kd.int .u8) (w0 := W0) W0.heap.size rfl (.tmp 160) (.tmp 167) 55 5 (.int .u8 0) 1 rfl Try.underlying55 infoB' rfl (by decide) (by decide) _ xs [(x : Int) / 256, (x : Int) % 256] _ _ _ (fun _ => True) (fun _ => False) rfl rfl HSS.out.out HTW.out (fun _ _ h => h) (fun _ h => h.elim) (fun _ _ => trivial) HSS.out.below HSS.out.below.size (by omega) ?_; intro v9 w9 ho9 hb9 hg9 hat9; have HP9 := Aside0.mk (OutSt.push x ho9 hb9); clear ho9 hb9 hg9 hat9))
                  go_roundg (gk - 1)
                  case measure => omega
                  case rel => exact ⟨j + 1, by omega, by omega, by go_num, ⟨by rw [HSN2.out]; exact HP9.out⟩⟩
                · have hjl' : ¬ (j : Int) < 128 := by omega
                  obtain rfl : j = 128 := by omega
                  have hst := hS.out
                  rw [List.take_of_length_le (by rw [HL1.out]; exact Nat.le_refl _), ← HSN.out] at hst
                  have HSR := Aside0.mk hst
                  clear hst hS
                  go_wp2
                  go_roundg (g3 - 1)
                  case measure => omega
                  case rel => exact ⟨i2 + 1, by omega, by omega, by go_num, HSR⟩
            · have hil2' : ¬ (i2 : Int) < (ul.length : Int) := by omega
              obtain rfl : i2 = ul.length := by omega
              have hst := hS.out
              rw [List.take_of_length_le (Nat.le_refl _), ← HPK.out] at hst
              obtain ⟨A, cc, rfl, hcc, hC⟩ := Kd.R_reads hst.out
              have hconv := Kd.C_string (dst := 9) Try.underlying55 Try.underlying5 Try.underlying9 hC (c := cc)
              have HFW := Aside0.mk (show PackDPost w say (.returned (.tuple #[.string (strOfNums (packT (tabSay say))), .int .i64 ((ul.length : Nat) : Int)])) wr from ⟨HBW.out.trans (hst.below.mono HBW.out.size), by rw [← HUL.out]⟩)
              have HCV := Aside0.mk hconv
              generalize strOfNums (packT (tabSay say)) = str at HCV HFW
              generalize (packT (tabSay say)).length = len at *
              have hconv' := HCV.out
              clear hst hC hS hconv HCV
              go_wp2
              go_ret2
              exact HFW.out

theorem packd_calls (w : World) {v : Option Addr} {q : List (Nat × Nat × Nat)} {A : Option Addr} {n c : Nat} (h : Tbl w v q A n c) :
    Calls Try.prog 30 #[.slice A n c] w (PackDPost w (sayQ q)) := packq_calls w h.qin

end Go.Proofs.Ytajmbafljncjcaa.PStageOver
