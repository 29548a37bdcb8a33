/- Pairs: its walk. -/
import Derived.Test.YtajmbafljncjcaaPrs
import Derived.Test.YtajmbafljncjcaaCntC
import Derived.Test.YtajmbafljncjcaaSrtStageOver
namespace Go.Proofs.Ytajmbafljncjcaa.PStageOver
open Go.RowKit Go.Proofs.YtajmbafljncjcaaW.PrintWords Go.Proofs.YtajmbafljncjcaaW.PrintLast Go.Proofs.YtajmbafljncjcaaW.PrintMore Go.Proofs.Ytajmbafljncjcaa.Stage Go.Proofs.Ytajmbafljncjcaa.Mp
set_option linter.unusedVariables false
set_option linter.unusedSimpArgs false

theorem len_sub {α : Type} [DecidableEq α] : ∀ {l m : List α}, l.Nodup → (∀ x ∈ l, x ∈ m) → l.length ≤ m.length
  | [], m, _, _ => Nat.zero_le _
  | x :: l, m, h, hs => by
    rw [List.nodup_cons] at h
    have hx := hs x (by simp)
    have := len_sub (l := l) (m := m.erase x) h.2 (fun y hy => (List.mem_erase_of_ne (fun e => h.1 (by rw [← e]; exact hy))).2 (hs y (by simp [hy])))
    rw [List.length_erase_of_mem hx] at this
    have : 0 < m.length := List.length_pos_of_mem hx
    simp only [List.length_cons]
    omega
/-- What a round makes of an entry. -/
def rowE (e : MapEntry) : S30 := match e.key, e.val with
  | .agg cs, .int _ c => match cs.toList with
    | [.int _ a, .int _ b] => ⟨a, b, c⟩
    | _ => ⟨0, 0, 0⟩
  | _, _ => ⟨0, 0, 0⟩
def rowP (p : Nat × Nat) : S30 := ⟨hiZ p.1, loZ p.1, (p.2 : Int)⟩
theorem rowE_mem {es : List MapEntry} {l : List (Nat × Nat)} (h : es.map (fun e => (e.key, e.val)) = l.map (fun p => (prV p.1, evI p.2))) {e : MapEntry} (he : e ∈ es) : ∃ p, e.key = .agg #[.int .i64 (hiZ p.1), .int .i64 (loZ p.1)] ∧ e.val = .int .i64 (p.2 : Nat) ∧ rowE e = rowP p := by
  have : (e.key, e.val) ∈ es.map (fun e => (e.key, e.val)) := List.mem_map.2 ⟨e, he, rfl⟩
  rw [h] at this
  obtain ⟨p, _, hp⟩ := List.mem_map.1 this
  simp only [Prod.mk.injEq] at hp
  refine ⟨p, hp.1.symm, hp.2.symm, ?_⟩
  unfold rowE
  rw [← hp.1, ← hp.2]
  rfl
theorem rowE_all : ∀ {es : List MapEntry} {l : List (Nat × Nat)}, es.map (fun e => (e.key, e.val)) = l.map (fun p => (prV p.1, evI p.2)) → es.map rowE = l.map rowP
  | [], [], _ => rfl
  | [], _ :: _, h => by simp at h
  | _ :: _, [], h => by simp at h
  | e :: es, p :: l, h => by
    simp only [List.map_cons, List.cons.injEq, Prod.mk.injEq] at h
    obtain ⟨⟨h1, h2⟩, h3⟩ := h
    rw [List.map_cons, List.map_cons, rowE_all h3]
    congr 1
    unfold rowE
    rw [h1, h2]
    rfl
theorem addK_len (n m : Nat) (l : List (Nat × Nat)) : (addK n m l).length ≤ l.length + 1 := by
  unfold addK put
  split
  · rw [List.length_set]; omega
  · simp
theorem cntL_len : ∀ (out : List (Nat × Nat × Nat)) (l : List (Nat × Nat)), (out.foldl (fun l x => addK x.2.2 (x.2.1 - x.1 + 1) l) l).length ≤ l.length + out.length
  | [], l => by simp
  | x :: out, l => by
    rw [List.foldl_cons]
    have h1 := cntL_len out (addK x.2.2 (x.2.1 - x.1 + 1) l)
    have h2 := addK_len x.2.2 (x.2.1 - x.1 + 1) l
    simp only [List.length_cons]
    omega
theorem ne_obj {α : Type} {d : Kd α} {e base k : Nat} {w : World} {ok : Nat → Prop} {v : Value} {xs : List α} {o : Obj} (h : d.R e w base ok v xs) (ho : w.heap[k]? = some o) (hno : ∀ cells q f, o ≠ .cells cells q f) : some k ≠ v.ownBlock := fun he => by
  obtain ⟨_, _, _, q, _, cells, hc⟩ := (Kd.R_bound h).1 k he.symm
  rw [ho] at hc
  exact hno _ _ _ (Option.some.inj hc)

theorem pairs_says {w W4 : World} {va vb : Option Addr} {sa sb : Nat → Nat} (ha : Han w va sa) (hb : Han w vb sb) (b1 : ∀ p, p < 1114112 → sa p ≤ 65535) (b2 : ∀ p, p < 1114112 → sb p ≤ 65535) (hold : Below w.heap.size w W4) (B0 B1 B2 B3 : Nat)
    (k0 : Blk W4 B0 [.pointer va] 23) (k1 : Blk W4 B1 [.pointer vb] 23) (k2 : Blk W4 B2 [.pointer va] 23) (k3 : Blk W4 B3 [.pointer vb] 23) :
    SaysP W4 (pairSay sa sb) (fun i => evenB sa i && evenB sb i) 79 #[] #[.pointer (some ⟨B0, 0, none⟩), .pointer (some ⟨B1, 0, none⟩)] 97 #[] #[.pointer (some ⟨B2, 0, none⟩), .pointer (some ⟨B3, 0, none⟩)] where
  entS := call_enters Try.func79 (by kernel_rfl) (by kernel_rfl)
  entE := call_enters Try.func97 (by kernel_rfl) (by kernel_rfl)
  even_ok := fun i hi h j hj => by
    rw [Bool.and_eq_true] at h
    unfold pairSay
    rw [evenB_ok h.1 j hj, evenB_ok h.2 j hj]
  says := fun W p hW hp => prs1_calls W B0 B1 va vb sa sb (ha.below (hold.trans (hW.mono hold.size))) (hb.below (hold.trans (hW.mono hold.size))) p hp (b1 p hp) (b2 p hp) ((show Blk W B0 _ _ from (hW.block _ k0.lt).trans k0).cell 0) ((show Blk W B1 _ _ from (hW.block _ k1.lt).trans k1).cell 0)
  evens := fun W i hW hi => both1_calls W B2 B3 va vb sa sb (ha.below (hold.trans (hW.mono hold.size))) (hb.below (hold.trans (hW.mono hold.size))) i hi ((show Blk W B2 _ _ from (hW.block _ k2.lt).trans k2).cell 0) ((show Blk W B3 _ _ from (hW.block _ k3.lt).trans k3).cell 0)

theorem ltr {w : World} {r M : Nat} {es : Array MapEntry} {clock since : Nat} {ds : List MapEntry} (h : RngB w r M es clock since ds) : r < w.heap.size := by
  obtain ⟨c0, _, h2⟩ := h.it
  exact (Array.getElem?_eq_some_iff.1 h2).1
theorem ltm {w : World} {r M : Nat} {es : Array MapEntry} {clock since : Nat} {ds : List MapEntry} (h : RngB w r M es clock since ds) : M < w.heap.size := (Array.getElem?_eq_some_iff.1 h.mp).1
theorem ne_it {α : Type} {d : Kd α} {e base r M : Nat} {w : World} {ok : Nat → Prop} {v : Value} {xs : List α} {es : Array MapEntry} {clock since : Nat} {ds : List MapEntry} (h : d.R e w base ok v xs) (hR : RngB w r M es clock since ds) : some r ≠ v.ownBlock := by
  obtain ⟨c0, _, h2⟩ := hR.it
  exact ne_obj h h2 (fun _ _ _ h => by cases h)
theorem ne_mp {α : Type} {d : Kd α} {e base r M : Nat} {w : World} {ok : Nat → Prop} {v : Value} {xs : List α} {es : Array MapEntry} {clock since : Nat} {ds : List MapEntry} (h : d.R e w base ok v xs) (hR : RngB w r M es clock since ds) : some M ≠ v.ownBlock := ne_obj h hR.mp (fun _ _ _ h => by cases h)
theorem grown_setObj {w w1 : World} (hw : w1 = w ∨ w1 = w.drew) (r : Nat) (o : Obj) : w.grownBy (setObjAt w1 r o) (some r) := by
  rcases hw with rfl | rfl
  all_goals
    refine ⟨rfl, rfl, rfl, ?_, fun i hi hne => ?_⟩
  · show w1.heap.size ≤ (w1.heap.setIfInBounds r o).size
    simp
  · have : i ≠ r := fun e => hne (by rw [e])
    show (w1.heap.setIfInBounds r o)[i]? = w1.heap[i]?
    simp [Array.getElem?_setIfInBounds, Ne.symm this]
  · show w.heap.size ≤ (w.heap.setIfInBounds r o).size
    simp
  · have : i ≠ r := fun e => hne (by rw [e])
    show (w.heap.setIfInBounds r o)[i]? = w.heap[i]?
    simp [Array.getElem?_setIfInBounds, Ne.symm this]
theorem ds_len {w : World} {r M : Nat} {es : Array MapEntry} {clock since : Nat} {ds : List MapEntry} (h : RngB w r M es clock since ds) : ds.length ≤ es.toList.length := by
  have := len_sub h.dnd (m := es.toList.map (·.born)) (fun x hx => by
    obtain ⟨d, hd, rfl⟩ := List.mem_map.1 hx
    exact List.mem_map.2 ⟨d, h.sub d hd, rfl⟩)
  simpa using this
section
variable {P : Program} {ops : Array Oper} {rest : List Oper} {o : Oper} {a : Act} {Q : Exit → Act → World → Prop} {W W1 : World}
theorem next_event (hgd : o.guard = none) (it : Operand) (hop : o.op = .next it false) {p : Addr} (hit : a.eval it = .pointer (some p)) {v : Value} (hrun : (Instr.next (.pointer (some p)) false o.type).run P W = .ok v W1) (h : wpList P ops Q rest (a.put o.dst v) W1) : wpList P ops Q (o :: rest) a W :=
  Kd.event_run hgd (by unfold execOp; rw [hop]; simp [hit, hrun, Result.andThen]) h
theorem entry_event (hgd : o.guard = none) (it : Operand) (hop : o.op = .entry it) {p : Addr} (hit : a.eval it = .pointer (some p)) {v : Value} (hrun : (Instr.entry (.pointer (some p))).run P W = .ok v W1) (h : wpList P ops Q rest (a.put o.dst v) W1) : wpList P ops Q (o :: rest) a W :=
  Kd.event_run hgd (by unfold execOp; rw [hop]; simp [hit, hrun, Result.andThen]) h
end
theorem infoT : (Try.prog.info? 81).map (fun i => (i.zero, i.size, i.bytes)) = some (some (.agg #[(.int .i64 0), (.int .i64 0), (.int .i64 0)]), 3, 24) := by kernel_rfl
/-- Pairs' answer: the counts of the pairs' stretches, sorted. -/
def PairsPost (w : World) (say : Nat → Nat) (e : Ending) (w' : World) : Prop :=
  Below w.heap.size w w' ∧ ∃ A c rs l0, e = .returned (.slice A l0.length c) ∧ Til say 1114112 0 rs ∧ l0.Perm ((cntL rs).map rowP) ∧ SortedT l0 ∧ Kd.C k30 w' A l0.length l0

set_option maxRecDepth 100000 in
set_option maxHeartbeats 1600000 in
theorem pairs_calls (w : World) (va vb : Option Addr) (sa sb : Nat → Nat) (ha : Han w va sa) (hb : Han w vb sb) (b1 : ∀ p, p < 1114112 → sa p ≤ 65535) (b2 : ∀ p, p < 1114112 → sb p ≤ 65535) :
    Calls Try.prog 42 #[.pointer va, .pointer vb] w (PairsPost w (pairSay sa sb)) := by
  have hmf : ∀ (fn : Fn) (first cap : Array Value) (w : World), (Instr.makeFunc fn first cap).run Try.prog w = .ok (.func fn first cap) w := fun _ _ _ _ => rfl
  have infoT' := infoT
  have hY : SaysP ((((w.alloc (.cells #[.pointer va] 23)).alloc (.cells #[.pointer vb] 23)).alloc (.cells #[.pointer va] 23)).alloc (.cells #[.pointer vb] 23)) (pairSay sa sb) (fun i => evenB sa i && evenB sb i) 79 #[] #[.pointer (some ⟨w.heap.size, 0, none⟩), .pointer (some ⟨w.heap.size + 1, 0, none⟩)] 97 #[] #[.pointer (some ⟨w.heap.size + 1 + 1, 0, none⟩), .pointer (some ⟨w.heap.size + 1 + 1 + 1, 0, none⟩)] := by
    have k0 := ((blk_new w [.pointer va] 23).alloc (.cells #[.pointer vb] 23)).alloc (.cells #[.pointer va] 23) |>.alloc (.cells #[.pointer vb] 23)
    have k1 := ((blk_new (w.alloc (.cells #[.pointer va] 23)) [.pointer vb] 23).alloc (.cells #[.pointer va] 23)).alloc (.cells #[.pointer vb] 23)
    have k2 := (blk_new ((w.alloc (.cells #[.pointer va] 23)).alloc (.cells #[.pointer vb] 23)) [.pointer va] 23).alloc (.cells #[.pointer vb] 23)
    have k3 := blk_new (((w.alloc (.cells #[.pointer va] 23)).alloc (.cells #[.pointer vb] 23)).alloc (.cells #[.pointer va] 23)) [.pointer vb] 23
    simp only [alloc_size] at k1 k2 k3
    exact pairs_says ha hb b1 b2 (below_alloc (below_alloc (below_alloc (below_alloc (Below.refl _ _) _) _) _) _) _ _ _ _ k0 k1 k2 k3
  have hb4 := below_alloc (below_alloc (below_alloc (below_alloc (Below.refl w.heap.size w) (.cells #[.pointer va] 23)) (.cells #[.pointer vb] 23)) (.cells #[.pointer va] 23)) (.cells #[.pointer vb] 23)
  have HB4 := Aside0.mk hb4
  have HC := Aside0.mk (counts_calls _ hY)
  have hsz4 : ((((w.alloc (.cells #[.pointer va] 23)).alloc (.cells #[.pointer vb] 23)).alloc (.cells #[.pointer va] 23)).alloc (.cells #[.pointer vb] 23)).heap.size = w.heap.size + 4 := by simp only [alloc_size]
  have HSZ := Aside0.mk hsz4
  clear ha hb hY hb4 hsz4
  go_enter Try.func42, Try.ntmps42
  go_wp2_with (first | (go_at_call 74; refine (both_calls _ _ _).mono ?_; rintro e w1 ⟨rfl, rfl⟩))
  refine HC.out.mono ?_
  rintro e w5 ⟨hb5, M, rs, rfl, hM, ht, hmp⟩
  have HB5 := Aside0.mk (HB4.out.trans (hb5.mono HB4.out.size))
  have hM4 : w.heap.size ≤ M := by have := HSZ.out; omega
  obtain ⟨es, clock, h1, h2, h3, h4⟩ := hmp
  have hrg := run_range_map (P := Try.prog) w5 124 _ _ M es clock Try.underlying124 h1
  have hMl : M < w5.heap.size := (Array.getElem?_eq_some_iff.1 h1).1
  have HT := Aside0.mk ht
  have H2 := Aside0.mk h2
  have HR6 := Aside0.mk (show RngB (w5.alloc (.mapIter (some M) clock #[] clock)) w5.heap.size M es clock clock [] from ⟨⟨clock, Nat.le_refl _, heap_alloc_new _ _⟩, (Below.heap_alloc _ _ _ hMl).trans h1, h3, Nat.le_refl _, h4, (fun d hd => by cases hd), by simp⟩)
  have HB6 := Aside0.mk (below_alloc HB5.out (.mapIter (some M) clock #[] clock))
  have hrM : w5.heap.size ≠ M := by omega
  have hw5 : w.heap.size ≤ w5.heap.size := HB5.out.size
  have hlen : es.toList.length ≤ 1114112 := by
    have e1 := congrArg List.length h2
    rw [List.length_map, List.length_map] at e1
    have e2 := cntL_len rs []
    have e3 := ht.length
    unfold cntL at e1
    rw [e1]
    simp only [List.length_nil] at e2
    omega
  clear hb5 h1 h2 h3 h4 ht HB4 HC HB5 HSZ
  go_wp2
  clear hrg
  generalize hw6 : w5.alloc (.mapIter (some M) clock #[] clock) = w6 at *
  generalize hr : w5.heap.size = r at *
  clear hw6 hr
  go_loopg [5] (es.toList.length + 1) (fun k v5 wr => ∃ ds : List MapEntry, es.toList.length + 1 - ds.length ≤ k ∧ Aside0 (RngB wr r M es clock clock ds) ∧ Aside0 (Kd.R k30 81 wr w.heap.size (fun _ => True) v5 (ds.map rowE)) ∧ Aside0 (Below w.heap.size w wr))
  case atStart => exact ⟨[], by simp, HR6, ⟨Kd.R_nil _ _ _ _ _⟩, HB6⟩
  case round =>
    obtain ⟨ds, hk, hR, hO, hB⟩ := hrel
    clear HR6 HB6
    have hdl : ds.length ≤ es.toList.length := ds_len hR.out
    rcases hR.out.next (P := Try.prog) hrM 0 with ⟨hperm, hrun⟩ | ⟨e, he, w1, hw1, o, hrun, hR', hen⟩
    · have HRUN := Aside0.mk hrun
      have HPERM := Aside0.mk (show (ds.map rowE).Perm ((cntL rs).map rowP) from by rw [← rowE_all H2.out]; exact hperm.map _)
      obtain ⟨A5, c5, rfl⟩ := Kd.R_slice hO.out
      have HSO := Aside0.mk (sortT_calls wr w.heap.size A5 _ c5 (ds.map rowE) (by rw [List.length_map]; omega) hO.out)
      have HBR := hB
      clear hrun hperm hR hO hB
      generalize ds.map rowE = li at *
      go_wp2_with (first | ((with_reducible refine gate_dst (N := 14) rfl ?_); refine next_event rfl (.tmp 13) rfl (by go_simp) HRUN.out ?_))
      refine HSO.out.mono ?_
      rintro e w7 ⟨rfl, hb7, l0, hp, hs, hC⟩
      have hle : l0.length = li.length := hp.length_eq
      have HF := Aside0.mk (show ∀ v, v = .slice A5 li.length c5 → PairsPost w (pairSay sa sb) (.returned v) w7 from fun v hv => ⟨HBR.out.trans hb7, A5, c5, rs, l0, by rw [hv, hle], HT.out, hp.trans HPERM.out, hs, hC⟩)
      clear hp hs hC hb7 HSO HPERM hle
      generalize li.length = n0 at *
      go_wp2
      go_returns
      exact HF.out _ rfl
    · obtain ⟨p, e1, e2, e3⟩ := rowE_mem H2.out he
      rw [e1, e2] at hrun hen
      have HRUN := Aside0.mk hrun
      have HEN := Aside0.mk hen
      have hrl : (ds.map rowE).length ≤ 1114112 := by rw [List.length_map]; omega
      have hlt : ds.length + 1 ≤ es.toList.length := by
        have := ds_len hR'
        simpa using this
      have HE := Aside0.mk (show (ds ++ [e]).map rowE = ds.map rowE ++ [⟨hiZ p.1, loZ p.1, (p.2 : Int)⟩] from by rw [List.map_append, List.map_singleton, e3]; rfl)
      generalize hiZ p.1 = h0 at *
      generalize loZ p.1 = l0 at *
      generalize ((p.2 : Nat) : Int) = c0 at *
      have hbw : Below w.heap.size w (setObjAt w1 r o) := below_setObj (by rcases hw1 with rfl | rfl; exact hB.out; exact hB.out.trans ⟨rfl, rfl, rfl, Nat.le_refl _, fun _ _ => rfl⟩) (by omega) o
      have hO1 : Kd.R k30 81 (setObjAt w1 r o) w.heap.size (fun _ => True) _ (ds.map rowE) := Kd.R_grown1 hO.out rfl (grown_setObj hw1 r o) (ne_it hO.out hR.out)
      generalize setObjAt w1 r o = w2 at *
      have HR3 := Aside0.mk (hR'.keep (w1 := w2.alloc (.cells #[.int .i64 h0, .int .i64 l0] 126)) (Below.heap_alloc _ _ _ (ltr hR')) (Below.heap_alloc _ _ _ (ltm hR')))
      have HO3 := Aside0.mk (Kd.R_alloc hO1 (.cells #[.int .i64 h0, .int .i64 l0] 126))
      have HB3 := Aside0.mk (below_alloc hbw (.cells #[.int .i64 h0, .int .i64 l0] 126))
      generalize ds.map rowE = xs at HO3 HE hrl
      clear hrun hen hR hR' hO1 hbw hO hB hw1 e1 e2 e3 he
      go_wp2_with (first | ((with_reducible refine gate_dst (N := 14) rfl ?_); refine next_event rfl (.tmp 13) rfl (by go_simp) HRUN.out ?_) | ((with_reducible refine gate_dst (N := 16) rfl ?_); refine entry_event rfl (.tmp 13) rfl (by go_simp) HEN.out ?_) | ((with_reducible refine gate_builtin (b := .append) (xs := #[.tmp 19, .tmp 26]) rfl ?_); at_builtin; refine Kd.R_append k30 (w0 := w) w.heap.size rfl (.tmp 19) (.tmp 26) 79 81 (.agg #[.int .i64 0, .int .i64 0, .int .i64 0]) 24 rfl Try.underlying79 infoT' rfl (by decide) (by omega) _ xs ⟨h0, l0, c0⟩ [.int .i64 h0, .int .i64 l0, .int .i64 c0] (fun _ => True) (fun _ => False) rfl (by first | (go_simp; done) | (go_simp; rfl)) (k30_mkM _ _ _ ⟨h0, l0, c0⟩) (fun _ hk => hk.elim) (fun _ _ => trivial) HO3.out HB3.out HB3.out.size (by omega) ?_; intro v5 w5 ho5 hb5 hg5 hat5; have HO5 := Aside0.mk ho5; have HB5 := Aside0.mk hb5; have HR5 := Aside0.mk (HR3.out.keep (hg5.block r (ltr HR3.out) (ne_it HO3.out HR3.out)) (hg5.block M (ltm HR3.out) (ne_mp HO3.out HR3.out))); clear ho5 hb5 hg5 hat5))
      go_roundg (gk - 1)
      case measure => omega
      case rel => exact ⟨ds ++ [e], by rw [List.length_append, List.length_singleton]; omega, HR5, ⟨by rw [HE.out]; exact HO5.out⟩, HB5⟩

end Go.Proofs.Ytajmbafljncjcaa.PStageOver
