/- Numbers: its walk. Most: its walk; the numbers of a table, in plain. -/
import Derived.Test.YtajmbafljncjcaaPrsCStageOver
import Derived.Test.YtajmbafljncjcaaCntI
import Derived.Test.YtajmbafljncjcaaSrtIStageOver
/-! ### NumC: Numbers: its walk. -/
namespace Go.Proofs.Ytajmbafljncjcaa.PStageOver
open Go.RowKit Go.Proofs.YtajmbafljncjcaaW.PrintWords Go.Proofs.YtajmbafljncjcaaW.PrintLast Go.Proofs.YtajmbafljncjcaaW.PrintMore Go.Proofs.Ytajmbafljncjcaa.Stage Go.Proofs.Ytajmbafljncjcaa.Mp
set_option linter.unusedVariables false
set_option linter.unusedSimpArgs false

def keyN (e : MapEntry) : Int := match e.key with
  | .int _ n => n
  | _ => 0
theorem keyN_mem {es : List MapEntry} {l : List (Nat × Nat)} (h : es.map (fun e => (e.key, e.val)) = l.map (fun p => (evI p.1, evI p.2))) {e : MapEntry} (he : e ∈ es) : ∃ p : Nat × Nat, e.key = .int .i64 (p.1 : Int) ∧ e.val = .int .i64 (p.2 : Int) ∧ keyN e = (p.1 : Int) := by
  have : (e.key, e.val) ∈ es.map (fun e => (e.key, e.val)) := List.mem_map.2 ⟨e, he, rfl⟩
  rw [h] at this
  obtain ⟨p, _, hp⟩ := List.mem_map.1 this
  simp only [Prod.mk.injEq] at hp
  refine ⟨p, hp.1.symm, hp.2.symm, ?_⟩
  unfold keyN
  rw [← hp.1]
  rfl
theorem keyN_all : ∀ {es : List MapEntry} {l : List (Nat × Nat)}, es.map (fun e => (e.key, e.val)) = l.map (fun p => (evI p.1, evI p.2)) → es.map keyN = l.map (fun p => (p.1 : Int))
  | [], [], _ => rfl
  | [], _ :: _, h => by simp at h
  | _ :: _, [], h => by simp at h
  | e :: es, p :: l, h => by
    simp only [List.map_cons, List.cons.injEq, Prod.mk.injEq] at h
    obtain ⟨⟨h1, h2⟩, h3⟩ := h
    rw [List.map_cons, List.map_cons, keyN_all h3]
    congr 1
    unfold keyN
    rw [h1]
    rfl
theorem addK_pos (n m : Nat) (l : List (Nat × Nat)) (h : 0 < l.length) : 0 < (addK n m l).length := by
  unfold addK put
  split
  · rw [List.length_set]; exact h
  · simp
theorem cntL_pos' : ∀ (out : List (Nat × Nat × Nat)) (l : List (Nat × Nat)), 0 < l.length → 0 < (out.foldl (fun l x => addK x.2.2 (x.2.1 - x.1 + 1) l) l).length
  | [], l, h => h
  | x :: out, l, h => by
    rw [List.foldl_cons]
    exact cntL_pos' out _ (addK_pos _ _ _ h)
theorem cntL_pos {say : Nat → Nat} {rs : List (Nat × Nat × Nat)} (h : Til say 1114112 0 rs) : 0 < (cntL rs).length := by
  cases rs with
  | nil => have : (0 : Nat) = 1114112 := h; omega
  | cons x l =>
    unfold cntL
    rw [List.foldl_cons]
    exact cntL_pos' _ _ (by simp [addK, put, place])
theorem infoI : (Try.prog.info? 3).map (fun i => (i.zero, i.size, i.bytes)) = some (some (.int .i64 0), 1, 8) := by kernel_rfl
/-- Numbers' answer: what is said somewhere, rising. -/
def NumsPost (w : World) (say : Nat → Nat) (e : Ending) (w' : World) : Prop :=
  Below w.heap.size w w' ∧ ∃ A c rs zs, e = .returned (.slice A zs.length c) ∧ Til say 1114112 0 rs ∧ zs.Perm ((cntL rs).map fun p => (p.1 : Int)) ∧ zs.Pairwise (fun x y => x ≤ y) ∧ Kd.C (Kd.int .i64) w' A zs.length zs

set_option maxRecDepth 100000 in
set_option maxHeartbeats 1600000 in
theorem numbers_calls (w : World) (v : Option Addr) (say : Nat → Nat) (hh : Han w v say) : Calls Try.prog 45 #[.pointer v] w (NumsPost w say) := by
  have hmf : ∀ (fn : Fn) (first cap : Array Value) (w : World), (Instr.makeFunc fn first cap).run Try.prog w = .ok (.func fn first cap) w := fun _ _ _ _ => rfl
  have infoI' := infoI
  have HC := Aside0.mk (countsI_calls w v say hh)
  clear hh
  go_enter Try.func45, Try.ntmps45
  go_wp2_with fail
  refine HC.out.mono ?_
  rintro e w5 ⟨hb5, M, rs, rfl, hM, ht, hmp⟩
  have HB5 := Aside0.mk hb5
  obtain ⟨es, clock, h1, h2, h3, h4⟩ := hmp
  have hrg := run_range_map (P := Try.prog) w5 134 _ _ M es clock Try.underlying134 h1
  have hMl : M < w5.heap.size := (Array.getElem?_eq_some_iff.1 h1).1
  have HT := Aside0.mk ht
  have H2 := Aside0.mk h2
  have HPOS := Aside0.mk (cntL_pos ht)
  have HR6 := Aside0.mk (show RngB (w5.alloc (.mapIter (some M) clock #[] clock)) w5.heap.size M es clock clock [] from ⟨⟨clock, Nat.le_refl _, heap_alloc_new _ _⟩, (Below.heap_alloc _ _ _ hMl).trans h1, h3, Nat.le_refl _, h4, (fun d hd => by cases hd), by simp⟩)
  have HB6 := Aside0.mk (below_alloc HB5.out (.mapIter (some M) clock #[] clock))
  have hrM : w5.heap.size ≠ M := by omega
  have hw5 : w.heap.size ≤ w5.heap.size := HB5.out.size
  have hlen : es.toList.length ≤ 1114112 := by
    have e1 := congrArg List.length h2
    rw [List.length_map, List.length_map] at e1
    have e2 := cntL_len rs []
    have e3 := ht.length
    unfold cntL at e1
    rw [e1]
    simp only [List.length_nil] at e2
    omega
  clear hb5 h1 h2 h3 h4 ht HC HB5
  go_wp2
  clear hrg
  generalize hw6 : w5.alloc (.mapIter (some M) clock #[] clock) = w6 at *
  generalize hr : w5.heap.size = r at *
  clear hw6 hr
  go_loopg [3] (es.toList.length + 1) (fun k v3 wr => ∃ ds : List MapEntry, es.toList.length + 1 - ds.length ≤ k ∧ Aside0 (RngB wr r M es clock clock ds) ∧ Aside0 (Kd.R (Kd.int .i64) 3 wr w.heap.size (fun _ => True) v3 (ds.map keyN)) ∧ Aside0 (Below w.heap.size w wr))
  case atStart => exact ⟨[], by simp, HR6, ⟨Kd.R_nil _ _ _ _ _⟩, HB6⟩
  case round =>
    obtain ⟨ds, hk, hR, hO, hB⟩ := hrel
    clear HR6 HB6
    have hdl : ds.length ≤ es.toList.length := ds_len hR.out
    rcases hR.out.next (P := Try.prog) hrM 0 with ⟨hperm, hrun⟩ | ⟨e, he, w1, hw1, o, hrun, hR', hen⟩
    · have HRUN := Aside0.mk hrun
      have HPERM := Aside0.mk (show (ds.map keyN).Perm ((cntL rs).map fun p => (p.1 : Int)) from by rw [← keyN_all H2.out]; exact hperm.map _)
      obtain ⟨A5, c5, rfl⟩ := Kd.R_slice hO.out
      have HSO := Aside0.mk (sortI_calls wr w.heap.size A5 _ c5 (ds.map keyN) (by rw [HPERM.out.length_eq, List.length_map]; exact HPOS.out) (by rw [List.length_map]; omega) hO.out)
      have HBR := hB
      clear hrun hperm hR hO hB
      generalize ds.map keyN = li at *
      go_wp2_with (first | ((with_reducible refine gate_dst (N := 11) rfl ?_); refine next_event rfl (.tmp 10) rfl (by go_simp) HRUN.out ?_))
      refine HSO.out.mono ?_
      rintro e w7 ⟨rfl, hb7, l0, hp, hs, hC⟩
      have hle : l0.length = li.length := hp.length_eq
      have HF := Aside0.mk (show ∀ v, v = .slice A5 li.length c5 → NumsPost w say (.returned v) w7 from fun v hv => ⟨HBR.out.trans hb7, A5, c5, rs, l0, by rw [hv, hle], HT.out, hp.trans HPERM.out, hs, hC⟩)
      clear hp hs hC hb7 HSO HPERM hle
      generalize li.length = n0 at *
      go_wp2
      go_returns
      exact HF.out _ rfl
    · obtain ⟨p, e1, e2, e3⟩ := keyN_mem H2.out he
      rw [e1, e2] at hrun hen
      have HRUN := Aside0.mk hrun
      have HEN := Aside0.mk hen
      have hrl : (ds.map keyN).length ≤ 1114112 := by rw [List.length_map]; omega
      have hlt : ds.length + 1 ≤ es.toList.length := by
        have := ds_len hR'
        simpa using this
      have HE := Aside0.mk (show (ds ++ [e]).map keyN = ds.map keyN ++ [(p.1 : Int)] from by rw [List.map_append, List.map_singleton, e3])
      generalize ((p.1 : Nat) : Int) = h0 at *
      generalize ((p.2 : Nat) : Int) = c0 at *
      have hbw : Below w.heap.size w (setObjAt w1 r o) := below_setObj (by rcases hw1 with rfl | rfl; exact hB.out; exact hB.out.trans ⟨rfl, rfl, rfl, Nat.le_refl _, fun _ _ => rfl⟩) (by omega) o
      have hO1 : Kd.R (Kd.int .i64) 3 (setObjAt w1 r o) w.heap.size (fun _ => True) _ (ds.map keyN) := Kd.R_grown1 hO.out rfl (grown_setObj hw1 r o) (ne_it hO.out hR.out)
      generalize setObjAt w1 r o = w2 at *
      have HR3 := Aside0.mk hR'
      have HO3 := Aside0.mk hO1
      have HB3 := Aside0.mk hbw
      generalize ds.map keyN = xs at HO3 HE hrl
      clear hrun hen hR hR' hO1 hbw hO hB hw1 e1 e2 e3 he
      go_wp2_with (first | ((with_reducible refine gate_dst (N := 11) rfl ?_); refine next_event rfl (.tmp 10) rfl (by go_simp) HRUN.out ?_) | ((with_reducible refine gate_dst (N := 13) rfl ?_); refine entry_event rfl (.tmp 10) rfl (by go_simp) HEN.out ?_) | ((with_reducible refine gate_builtin (b := .append) (xs := #[.tmp 15, .tmp 17]) rfl ?_); at_builtin; refine Kd.R_append (Kd.int .i64) (w0 := w) w.heap.size rfl (.tmp 15) (.tmp 17) 54 3 (.int .i64 0) 8 rfl Try.underlying54 infoI' rfl (by decide) (by omega) _ xs h0 [.int .i64 h0] (fun _ => True) (fun _ => False) rfl (by first | (go_simp; done) | (go_simp; rfl)) rfl (fun _ hk => hk.elim) (fun _ _ => trivial) HO3.out HB3.out HB3.out.size (by omega) ?_; intro v5 w5 ho5 hb5 hg5 hat5; have HO5 := Aside0.mk ho5; have HB5 := Aside0.mk hb5; have HR5 := Aside0.mk (HR3.out.keep (hg5.block r (ltr HR3.out) (ne_it HO3.out HR3.out)) (hg5.block M (ltm HR3.out) (ne_mp HO3.out HR3.out))); clear ho5 hb5 hg5 hat5))
      go_roundg (gk - 1)
      case measure => omega
      case rel => exact ⟨ds ++ [e], by rw [List.length_append, List.length_singleton]; omega, HR5, ⟨by rw [HE.out]; exact HO5.out⟩, HB5⟩

end Go.Proofs.Ytajmbafljncjcaa.PStageOver

/-! ### MostC: Most: its walk; the numbers of a table, in plain. -/
namespace Go.Proofs.Ytajmbafljncjcaa.PStageOver
open Go.RowKit Go.Proofs.YtajmbafljncjcaaW.PrintWords Go.Proofs.YtajmbafljncjcaaW.PrintLast Go.Proofs.YtajmbafljncjcaaW.PrintMore Go.Proofs.Ytajmbafljncjcaa.Stage Go.Proofs.Ytajmbafljncjcaa.Mp
set_option linter.unusedVariables false
set_option linter.unusedSimpArgs false

theorem nums_un {zs : List Int} {L : List (Nat × Nat)} (h : zs.Perm (L.map fun p => (p.1 : Int))) : ∃ ns : List Nat, ns.Perm (L.map (·.1)) ∧ zs = ns.map (fun n : Nat => (n : Int)) := by
  refine ⟨zs.map Int.toNat, ?_, ?_⟩
  · have := h.map Int.toNat
    rw [List.map_map] at this
    exact this
  · rw [List.map_map]
    have : ∀ x ∈ zs, ((fun n : Nat => (n : Int)) ∘ Int.toNat) x = id x := fun x hx => by
      obtain ⟨p, _, rfl⟩ := List.mem_map.1 (h.mem_iff.1 hx)
      rfl
    rw [List.map_congr_left this, List.map_id]
/-- One number more: the one of the most code points. -/
def mostS (f : Nat → Nat) (a : Nat × Nat) (n : Nat) : Nat × Nat := if a.2 < f n then (n, f n) else a
def mostF (f : Nat → Nat) (ns : List Nat) : Nat × Nat := ns.foldl (mostS f) (0, 0)
theorem mostF_take (f : Nat → Nat) (ns : List Nat) (i : Nat) (h : i < ns.length) : mostF f (ns.take (i + 1)) = mostS f (mostF f (ns.take i)) (ns.getD i 0) := by
  have e : ns.take (i + 1) = ns.take i ++ [ns.getD i 0] := by
    simp only [List.getD_eq_getElem?_getD, List.getElem?_eq_getElem h, Option.getD_some]
    exact List.take_succ_eq_append_getElem h
  unfold mostF
  rw [e, List.foldl_append]
  rfl
def MostPost (w : World) (say : Nat → Nat) (e : Ending) (w' : World) : Prop :=
  Below w.heap.size w w' ∧ ∃ rs ns, e = .returned (.tuple #[.int .i64 ((mostF (fun n => manyK n rs) ns).1 : Nat), .int .i64 ((mostF (fun n => manyK n rs) ns).2 : Nat)]) ∧ Til say 1114112 0 rs ∧ ns.Perm ((cntL rs).map (·.1)) ∧ ns.Pairwise (fun x y => x ≤ y)

set_option maxRecDepth 100000 in
set_option maxHeartbeats 1600000 in
theorem most_calls (w : World) (v : Option Addr) (say : Nat → Nat) (hh : Han w v say) : Calls Try.prog 47 #[.pointer v] w (MostPost w say) := by
  have hmf : ∀ (fn : Fn) (first cap : Array Value) (w : World), (Instr.makeFunc fn first cap).run Try.prog w = .ok (.func fn first cap) w := fun _ _ _ _ => rfl
  have HC := Aside0.mk (countsI_calls w v say hh)
  have HH := Aside0.mk hh
  clear hh
  go_enter Try.func47, Try.ntmps47
  go_wp2_with fail
  refine HC.out.mono ?_
  rintro e w5 ⟨hb5, M, rs, rfl, hM, ht, hmp⟩
  have HB5 := Aside0.mk hb5
  have HMP := Aside0.mk hmp
  have HT := Aside0.mk ht
  have HN := Aside0.mk (numbers_calls w5 v say (HH.out.below hb5))
  clear hb5 ht hmp HC HH
  go_wp2_with fail
  refine HN.out.mono ?_
  rintro e w6 ⟨hb6, A6, c6, rs2, zs, rfl, ht2, hperm, hsort, hC6⟩
  obtain rfl : rs = rs2 := HT.out.uniq ht2
  obtain ⟨ns, hp, rfl⟩ := nums_un hperm
  have HB6 := Aside0.mk (HB5.out.trans (hb6.mono HB5.out.size))
  have HMP6 := Aside0.mk (HMP.out.block (hb6.block _ HMP.out.lt))
  have HP := Aside0.mk hp
  have HSO := Aside0.mk (show ns.Pairwise (fun x y => x ≤ y) from by
    rw [List.pairwise_map] at hsort
    exact hsort.imp (fun h => by omega))
  have HC6 := Aside0.mk hC6
  have HBD := Aside0.mk (fun n => (show manyK n rs ≤ 1114112 by have := manyK_le n HT.out; omega))
  have hnl : ns.length ≤ 1114112 := by
    rw [hp.length_eq, List.length_map]
    have e1 := cntL_len rs []
    have e2 := HT.out.length
    unfold cntL
    simp only [List.length_nil] at e1
    omega
  rw [List.length_map]
  clear hb6 ht2 hperm hsort hC6 hp HN HB5 HMP
  go_wp2
  go_loopg [5, 6, 17] (ns.length + 1) (fun k v5 v6 v17 wr => ∃ i : Nat, i ≤ ns.length ∧ ns.length + 1 - i ≤ k ∧ v17 = .int .i64 (i : Int) ∧ v5 = .int .i64 ((mostF (fun n => manyK n rs) (ns.take i)).1 : Nat) ∧ v6 = .int .i64 ((mostF (fun n => manyK n rs) (ns.take i)).2 : Nat) ∧ Aside0 (Below w6.heap.size w6 wr))
  case atStart => exact ⟨0, by omega, by omega, rfl, rfl, rfl, ⟨Below.refl _ _⟩⟩
  case round =>
    obtain ⟨i, hi, hk, rfl, rfl, rfl, hB⟩ := hrel
    by_cases hlt : i < ns.length
    · have hlt' : (i : Int) < (ns.length : Int) := by omega
      obtain ⟨ad, rfl, k0⟩ := at_I (Kd.C_below HC6.out hB.out) i (by rw [List.length_map]; exact hlt)
      rw [show (ns.map (fun n : Nat => (n : Int))).getD i 0 = ((ns.getD i 0 : Nat) : Int) by simp [List.getD_eq_getElem?_getD, List.getElem?_map, List.getElem?_eq_getElem hlt]] at k0
      have hst := mostF_take (fun n => manyK n rs) ns i hlt
      generalize ns.getD i 0 = n at k0 hst
      have hm1 := HMP6.out.block (hB.out.block _ HMP6.out.lt)
      have hL := run_lookup1 keyI (ev := evI) Try.underlying134 (z := 0) zero_int hm1.at (fun _ _ => trivial) n trivial
      have hL2 := run_lookup1 keyI (ev := evI) Try.underlying134 (z := 0) zero_int (show MapAt evI evI wr.drew M (cntL rs) from hm1.at) (fun _ _ => trivial) n trivial
      rw [at_cntL] at hL hL2
      simp only [evI] at hL hL2
      simp only [mostS] at hst
      have HST := Aside0.mk hst
      have HB7 := hB
      clear hst hm1 hB
      generalize manyK n rs = vn at *
      generalize mostF (fun n => manyK n rs) (ns.take i) = bm at *
      obtain ⟨bb, mm⟩ := bm
      simp only at HST
      by_cases hgt : mm < vn
      · have hgt' : (mm : Int) < (vn : Int) := by omega
        rw [if_pos hgt] at HST
        go_wp2
        go_region
        go_wp2
        go_roundg (gk - 1)
        case measure => omega
        case rel => exact ⟨i + 1, by omega, by omega, by go_num, by rw [HST.out], by rw [HST.out], ⟨HB7.out.trans ⟨rfl, rfl, rfl, Nat.le_refl _, fun _ _ => rfl⟩⟩⟩
      · have hgt' : ¬ (mm : Int) < (vn : Int) := by omega
        rw [if_neg hgt] at HST
        go_wp2
        go_roundg (gk - 1)
        case measure => omega
        case rel => exact ⟨i + 1, by omega, by omega, by go_num, by rw [HST.out], by rw [HST.out], HB7⟩
    · have hlt' : ¬ (i : Int) < (ns.length : Int) := by omega
      obtain rfl : i = ns.length := by omega
      rw [List.take_of_length_le (Nat.le_refl _)]
      have HF := Aside0.mk (show MostPost w say (.returned (.tuple #[.int .i64 ((mostF (fun n => manyK n rs) ns).1 : Nat), .int .i64 ((mostF (fun n => manyK n rs) ns).2 : Nat)])) wr from ⟨HB6.out.trans (hB.out.mono HB6.out.size), rs, ns, rfl, HT.out, HP.out, HSO.out⟩)
      clear hB
      generalize mostF (fun n => manyK n rs) ns = bm at *
      go_wp2
      go_ret2
      exact HF.out

end Go.Proofs.Ytajmbafljncjcaa.PStageOver
