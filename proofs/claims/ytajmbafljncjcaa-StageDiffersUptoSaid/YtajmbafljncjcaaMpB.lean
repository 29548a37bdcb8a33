/- Maps: what 'm[k] += x' does, and what a range over a map hands out. Over any program. -/
import Derived.Test.YtajmbafljncjcaaStA
import Derived.Maps.RangeRun
import Derived.WideKeyEntry
namespace Go.Proofs.Ytajmbafljncjcaa.Mp
open Go.RowKit Go.Proofs.YtajmbafljncjcaaW.PrintWords
open Go.ChangeMaps (setBlock)
set_option linter.unusedVariables false
set_option linter.unusedSimpArgs false

/-- The entries of a map, in the order in which they were put, each with a stamp of its own. -/
def MapB {κ ν : Type} (ek : κ → Value) (ev : ν → Value) (w : World) (b : Nat) (l : List (κ × ν)) : Prop :=
  ∃ es clock, w.heap[b]? = some (.map es clock) ∧ es.toList.map (fun e => (e.key, e.val)) = l.map (fun p => (ek p.1, ev p.2)) ∧ (∀ x ∈ es.toList, x.born < clock) ∧ (es.toList.map (·.born)).Nodup

variable {κ ν : Type} [DecidableEq κ] {P : Program} {kt : TypeId} {ek : κ → Value} {ev : ν → Value} {ok : κ → Prop}

omit [DecidableEq κ] in
theorem MapB.at {w : World} {b : Nat} {l : List (κ × ν)} (h : MapB ek ev w b l) : MapAt ek ev w b l := by
  obtain ⟨es, clock, h1, h2, _, _⟩ := h
  exact ⟨es, clock, h1, h2⟩
omit [DecidableEq κ] in
theorem MapB.lt {w : World} {b : Nat} {l : List (κ × ν)} (h : MapB ek ev w b l) : b < w.heap.size := h.at.lt
omit [DecidableEq κ] in
theorem MapB.block {w w1 : World} {b : Nat} {l : List (κ × ν)} (h : MapB ek ev w b l) (hb : w1.heap[b]? = w.heap[b]?) : MapB ek ev w1 b l := by
  obtain ⟨es, clock, h1, h2, h3, h4⟩ := h
  exact ⟨es, clock, by rw [hb]; exact h1, h2, h3, h4⟩
omit [DecidableEq κ] in
theorem mapB_new (w : World) (ek : κ → Value) (ev : ν → Value) : MapB ek ev (w.alloc (.map #[] 0)) w.heap.size ([] : List (κ × ν)) := ⟨#[], 0, heap_alloc_new w _, rfl, by simp, by simp⟩

/-- 'm[k] += x': the entry is laid (or found), then written. -/
theorem run_entry_add (K : KeyOk P kt ek ok) {t et : TypeId} (ht : P.underlying t = some (.map kt et)) {z : ν} (hz : ∀ w, (zeroValue et).run P w = .ok (ev z) w) {w : World} {b : Nat} {l : List (κ × ν)} (h : MapB ek ev w b l) (hl : ∀ p ∈ l, ok p.1) (a : κ) (ha : ok a) :
    ∃ (st : Nat) (o : Obj), (Instr.mapEntry t (.map (some b)) (ek a)).run P w = .ok (.tuple #[ev ((at? a l).getD z), .int .i64 (st : Int)]) (setObjAt w b o) ∧ MapB ek ev (setObjAt w b o) b (put a ((at? a l).getD z) l) ∧
      ∀ v, ∃ o', (Instr.entryStore t (.map (some b)) (.int .i64 (st : Int)) (ev v)).run P (setObjAt w b o) = .ok () (setObjAt w b o') ∧ MapB ek ev (setObjAt w b o') b (put a v l) := by
  obtain ⟨es, clock, hb, he, h3, h4⟩ := h
  have hlt : b < w.heap.size := (Array.getElem?_eq_some_iff.1 hb).1
  have hg : ∀ W : World, ∀ es clock, W.heap[b]? = some (.map es clock) → (getObj b).run P W = .ok (.map es clock) W := fun W es clock hW => by simp [getObj, Sem.run, hW]
  have hset : ∀ W : World, ∀ es clock o, W.heap[b]? = some (.map es clock) → (setObj b o).run P W = .ok () (setObjAt W b o) := fun W es clock o hW => by simp [setObj, Sem.run, hW, setObjAt]
  have hnew : ∀ o, (setObjAt w b o).heap[b]? = some o := fun o => by simp [setObjAt, hlt]
  have htwo : ∀ o o', setObjAt (setObjAt w b o) b o' = setObjAt w b o' := fun o o' => by simp [setObjAt]
  simp only [Instr.mapEntry, Sem.run_bind, run_underlying ht, Result.andThen_ok, hg w es clock hb, K.chk w _ a ha, findKey_here K w a ha es.toList l he hl]
  cases hp : place a l with
  | none =>
    have hat : at? a l = none := by simp [at?, hp]
    refine ⟨clock, .map (es.push { key := ek a, val := ev z, born := clock }) (clock + 1), by simp [hset w _ _ _ hb, hz, hat, goInt], ⟨_, _, hnew _, by simp [put, hp, he, hat], ?_, ?_⟩, fun v => ⟨.map (es.push { key := ek a, val := ev v, born := clock }) (clock + 1), ?_, ⟨_, _, hnew _, by simp [put, hp, he], ?_, ?_⟩⟩⟩
    · intro x hx
      simp only [Array.toList_push, List.mem_append, List.mem_singleton] at hx
      rcases hx with hx | rfl
      · have := h3 x hx; omega
      · exact Nat.lt_succ_self _
    · simp only [Array.toList_push, List.map_append, List.map_cons, List.map_nil]
      refine List.nodup_append.2 ⟨h4, by simp, fun a ha c hc e1 => ?_⟩
      simp only [List.mem_singleton] at hc
      obtain ⟨x, hx, rfl⟩ := List.mem_map.1 ha
      have := h3 x hx
      omega
    · have hidx : (es.push ⟨ek a, ev z, clock⟩).findIdx? (fun e => ((e.born : Nat) : Int) == ((clock : Nat) : Int)) = some es.size := by
        rw [Go.WideElems.findIdx_arr]
        exact Go.WideElems.findIdx_born (l := (es.push ⟨ek a, ev z, clock⟩).toList) (j := es.size) (e0 := ⟨ek a, ev z, clock⟩) (by
          simp only [Array.toList_push, List.map_append, List.map_cons, List.map_nil]
          refine List.nodup_append.2 ⟨h4, by simp, fun a ha c hc e1 => ?_⟩
          simp only [List.mem_singleton] at hc
          obtain ⟨x, hx, rfl⟩ := List.mem_map.1 ha
          have := h3 x hx
          omega) (by simp)
      have hmod : (es.push ⟨ek a, ev z, clock⟩).modify es.size (fun e => { e with val := ev v }) = es.push ⟨ek a, ev v, clock⟩ := by
        apply Array.ext'
        rw [Array.toList_modify, Array.toList_push, Array.toList_push, ← Array.length_toList, Go.WideElems.modify_last]
      simp only [Instr.entryStore, Sem.run_bind, hg _ _ _ (hnew _), Result.andThen_ok]
      simp [asInt, asIntOf, hidx, hmod, hset _ _ _ _ (hnew _), htwo]
    · intro x hx
      simp only [Array.toList_push, List.mem_append, List.mem_singleton] at hx
      rcases hx with hx | rfl
      · have := h3 x hx; omega
      · exact Nat.lt_succ_self _
    · simp only [Array.toList_push, List.map_append, List.map_cons, List.map_nil]
      refine List.nodup_append.2 ⟨h4, by simp, fun a ha c hc e1 => ?_⟩
      simp only [List.mem_singleton] at hc
      obtain ⟨x, hx, rfl⟩ := List.mem_map.1 ha
      have := h3 x hx
      omega
  | some j =>
    obtain ⟨p, hj, hpa⟩ := place_lt hp
    have hat : at? a l = some p.2 := by simp [at?, hp, hj]
    have hej : (es.toList.map (fun e => (e.key, e.val)))[j]? = some (ek a, ev p.2) := by rw [he, List.getElem?_map, hj]; simp [hpa]
    rw [List.getElem?_map] at hej
    obtain ⟨e0, h0, h1⟩ := Option.map_eq_some_iff.1 hej
    have h0' : es[j]? = some e0 := by simpa using h0
    simp only [Prod.mk.injEq] at h1
    have hk : (Instr.keyThatStays (ek a) (ek a)).run P w = .ok (ek a) w := by simp [Instr.keyThatStays, K.same a ha]
    have hsame : es.modify j (fun e => { e with key := ek a }) = es := by
      apply Array.ext'
      rw [Array.toList_modify, Go.ChangeMaps.modify_eq_set _ _ _ _ h0]
      have : ({ e0 with key := ek a } : MapEntry) = e0 := by rw [← h1.1]
      rw [this]
      exact Go.WideElems.set_self _ _ _ h0
    have hls : ∀ v, put a v l = l.set j (a, v) := fun v => by simp [put, hp]
    have hjl : j < l.length := (List.getElem?_eq_some_iff.1 hj).1
    refine ⟨e0.born, .map es clock, by simp [hj, h0', h1.1, hk, hsame, hset w _ _ _ hb, hat, goInt], ⟨_, _, hnew _, ?_, h3, h4⟩, fun v => ⟨.map (es.modify j fun e => { e with val := ev v }) clock, ?_, ⟨_, _, hnew _, ?_, ?_, ?_⟩⟩⟩
    · rw [hat, hls, he]
      have : l.set j (a, p.2) = l := by
        have e1 : (a, p.2) = p := by rw [← hpa]
        rw [e1]
        exact Go.WideElems.set_self _ _ _ hj
      rw [Option.getD_some, this]
    · have hidx : es.findIdx? (fun e => ((e.born : Nat) : Int) == ((e0.born : Nat) : Int)) = some j := by
        rw [Go.WideElems.findIdx_arr]
        exact Go.WideElems.findIdx_born h4 h0
      simp only [Instr.entryStore, Sem.run_bind, hg _ _ _ (hnew _), Result.andThen_ok]
      simp [asInt, asIntOf, hidx, hset _ _ _ _ (hnew _), htwo]
    · rw [hls, Array.toList_modify, Go.ChangeMaps.modify_eq_set _ _ _ _ h0, List.map_set, List.map_set, he]
      simp [h1.1]
    · intro x hx
      rw [Array.toList_modify, Go.ChangeMaps.modify_eq_set _ _ _ _ h0] at hx
      rcases List.mem_or_eq_of_mem_set hx with hx | rfl
      · exact h3 x hx
      · exact h3 e0 (List.mem_of_getElem? h0)
    · rw [Array.toList_modify, Go.ChangeMaps.modify_eq_set _ _ _ _ h0, List.map_set]
      have : (es.toList.map (·.born)).set j e0.born = es.toList.map (·.born) := Go.WideElems.set_self _ _ _ (by rw [List.getElem?_map, h0]; rfl)
      rw [this]
      exact h4

/-- 'm[k] = x'. -/
theorem run_updateB (K : KeyOk P kt ek ok) {t et : TypeId} (ht : P.underlying t = some (.map kt et)) {w : World} {b : Nat} {l : List (κ × ν)} (h : MapB ek ev w b l) (hl : ∀ p ∈ l, ok p.1) (a : κ) (ha : ok a) (v : ν) :
    ∃ o, (Instr.mapUpdate t (.map (some b)) (ek a) (ev v)).run P w = .ok () (setObjAt w b o) ∧ MapB ek ev (setObjAt w b o) b (put a v l) := by
  obtain ⟨es, clock, hb, he, h3, h4⟩ := h
  have hlt : b < w.heap.size := (Array.getElem?_eq_some_iff.1 hb).1
  have hg : (getObj b).run P w = .ok (.map es clock) w := by simp [getObj, Sem.run, hb]
  have hset : ∀ o, (setObj b o).run P w = .ok () (setObjAt w b o) := fun o => by simp [setObj, Sem.run, hb, setObjAt]
  have hnew : ∀ o, (setObjAt w b o).heap[b]? = some o := fun o => by simp [setObjAt, hlt]
  simp only [Instr.mapUpdate, Sem.run_bind, run_underlying ht, Result.andThen_ok, hg, K.chk w _ a ha, findKey_here K w a ha es.toList l he hl]
  cases hp : place a l with
  | none =>
    refine ⟨.map (es.push { key := ek a, val := ev v, born := clock }) (clock + 1), by simp [hset], ⟨_, _, hnew _, by simp [put, hp, he], ?_, ?_⟩⟩
    · intro x hx
      simp only [Array.toList_push, List.mem_append, List.mem_singleton] at hx
      rcases hx with hx | rfl
      · have := h3 x hx; omega
      · exact Nat.lt_succ_self _
    · simp only [Array.toList_push, List.map_append, List.map_cons, List.map_nil]
      refine List.nodup_append.2 ⟨h4, by simp, fun a ha c hc e1 => ?_⟩
      simp only [List.mem_singleton] at hc
      obtain ⟨x, hx, rfl⟩ := List.mem_map.1 ha
      have := h3 x hx
      omega
  | some j =>
    obtain ⟨p, hj, hpa⟩ := place_lt hp
    have hej : (es.toList.map (fun e => (e.key, e.val)))[j]? = some (ek a, ev p.2) := by rw [he, List.getElem?_map, hj]; simp [hpa]
    rw [List.getElem?_map] at hej
    obtain ⟨e0, h0, h1⟩ := Option.map_eq_some_iff.1 hej
    have h0' : es[j]? = some e0 := by simpa using h0
    simp only [Prod.mk.injEq] at h1
    have hk : (Instr.keyThatStays (ek a) (ek a)).run P w = .ok (ek a) w := by simp [Instr.keyThatStays, K.same a ha]
    have hls : put a v l = l.set j (a, v) := by simp [put, hp]
    refine ⟨.map (es.modify j fun e => { e with key := ek a, val := ev v }) clock, by simp [hj, h0', h1.1, hk, hset], ⟨_, _, hnew _, ?_, ?_, ?_⟩⟩
    · rw [hls, Array.toList_modify, Go.ChangeMaps.modify_eq_set _ _ _ _ h0, List.map_set, List.map_set, he]
    · intro x hx
      rw [Array.toList_modify, Go.ChangeMaps.modify_eq_set _ _ _ _ h0] at hx
      rcases List.mem_or_eq_of_mem_set hx with hx | rfl
      · exact h3 x hx
      · exact h3 e0 (List.mem_of_getElem? h0)
    · rw [Array.toList_modify, Go.ChangeMaps.modify_eq_set _ _ _ _ h0, List.map_set]
      have : (es.toList.map (·.born)).set j e0.born = es.toList.map (·.born) := Go.WideElems.set_self _ _ _ (by rw [List.getElem?_map, h0]; rfl)
      rw [this]
      exact h4

/-- A range over a map: ds are the entries that it has handed out. -/
structure RngB (w : World) (r M : Nat) (es : Array MapEntry) (clock since : Nat) (ds : List MapEntry) : Prop where
  it : ∃ c0, since ≤ c0 ∧ w.heap[r]? = some (.mapIter (some M) since (ds.map (·.born)).toArray c0)
  mp : w.heap[M]? = some (.map es clock)
  old : ∀ x ∈ es.toList, x.born < since
  le : since ≤ clock
  nd : (es.toList.map (·.born)).Nodup
  sub : ∀ d ∈ ds, d ∈ es.toList
  dnd : (ds.map (·.born)).Nodup
theorem RngB.keep {w w1 : World} {r M : Nat} {es : Array MapEntry} {clock since : Nat} {ds : List MapEntry} (h : RngB w r M es clock since ds) (hr : w1.heap[r]? = w.heap[r]?) (hM : w1.heap[M]? = w.heap[M]?) : RngB w1 r M es clock since ds :=
  ⟨by obtain ⟨c0, h1, h2⟩ := h.it; exact ⟨c0, h1, by rw [hr]; exact h2⟩, by rw [hM]; exact h.mp, h.old, h.le, h.nd, h.sub, h.dnd⟩
theorem nodup_of_born {l : List MapEntry} (h : (l.map (·.born)).Nodup) : l.Nodup := (List.pairwise_map.1 h).imp fun h e => h (congrArg _ e)
theorem perm_of_left {es : Array MapEntry} {ds : List MapEntry} (hnd : (es.toList.map (·.born)).Nodup) (hsub : ∀ d ∈ ds, d ∈ es.toList) (hdnd : (ds.map (·.born)).Nodup) (h0 : (leftOf es (ds.map (·.born)).toArray).size = 0) : ds.Perm es.toList := by
  refine (List.perm_ext_iff_of_nodup (nodup_of_born hdnd) (nodup_of_born hnd)).2 fun x => ⟨hsub x, fun hx => ?_⟩
  have hl : leftOf es (ds.map (·.born)).toArray = #[] := Array.eq_empty_of_size_eq_zero h0
  unfold leftOf at hl
  rw [Array.filter_eq_empty_iff] at hl
  have := hl x (by simpa using hx)
  simp at this
  obtain ⟨d, hd, hb⟩ := this
  have : d = x := by
    have hn := hnd
    have h1 := find_born d es.toList hn (hsub d hd)
    rw [hb, find_born x es.toList hn hx] at h1
    exact (Option.some.inj h1).symm
  exact this ▸ hd
theorem RngB.next {w : World} {r M : Nat} {es : Array MapEntry} {clock since : Nat} {ds : List MapEntry} (h : RngB w r M es clock since ds) (hne : r ≠ M) (ty : TypeId) :
    (ds.Perm es.toList ∧ (Instr.next (.pointer (some ⟨r, 0, none⟩)) false ty).run P w = .ok (.tuple #[.bool false]) w) ∨
    ∃ e ∈ es.toList, ∃ w1 : World, (w1 = w ∨ w1 = w.drew) ∧ ∃ o, (Instr.next (.pointer (some ⟨r, 0, none⟩)) false ty).run P w = .ok (.tuple #[.bool true, e.key, e.val]) (setObjAt w1 r o) ∧
      RngB (setObjAt w1 r o) r M es clock since (ds ++ [e]) ∧ (Instr.entry (.pointer (some ⟨r, 0, none⟩))).run P (setObjAt w1 r o) = .ok (.tuple #[e.key, e.val]) (setObjAt w1 r o) := by
  obtain ⟨c0, hc0, hr⟩ := h.it
  have hrl : r < w.heap.size := (Array.getElem?_eq_some_iff.1 hr).1
  rcases run_next_at (P := P) w ty r M since c0 (ds.map (·.born)).toArray es clock hr h.mp h.old hc0 with ⟨h0, hrun⟩ | ⟨e, he, w1, hw1, hrun⟩
  · exact .inl ⟨perm_of_left h.nd h.sub h.dnd h0, hrun⟩
  · have hel : e ∈ es.toList ∧ ∀ d ∈ ds, ¬ d.born = e.born := by
      unfold leftOf at he
      simp at he
      exact ⟨by simpa using he.1, he.2⟩
    have hh : w1.heap = w.heap := by rcases hw1 with rfl | rfl <;> rfl
    have e1 : ((ds.map (·.born)).toArray.push e.born) = ((ds ++ [e]).map (·.born)).toArray := by simp
    rw [e1] at hrun
    have hRng : RngB (setObjAt w1 r (.mapIter (some M) since ((ds ++ [e]).map (·.born)).toArray clock)) r M es clock since (ds ++ [e]) := by
      refine ⟨⟨clock, h.le, ?_⟩, ?_, h.old, h.le, h.nd, ?_, ?_⟩
      · simp [setObjAt, hh, hrl]
      · simp only [setObjAt, hh, Array.getElem?_setIfInBounds, if_neg hne]; exact h.mp
      · intro d hd
        rcases List.mem_append.1 hd with hd | hd
        · exact h.sub d hd
        · rw [List.mem_singleton] at hd; rw [hd]; exact hel.1
      · rw [List.map_append, List.map_singleton]
        refine List.nodup_append.2 ⟨h.dnd, by simp, fun a ha c hc e1 => ?_⟩
        simp only [List.mem_singleton] at hc
        obtain ⟨x, hx, rfl⟩ := List.mem_map.1 ha
        exact hel.2 x hx (by rw [e1, hc])
    refine .inr ⟨e, hel.1, w1, hw1, _, hrun, hRng, ?_⟩
    exact run_entry_at (P := P) _ r M since (ds.map (·.born)).toArray es clock e (by rw [e1]; simp [setObjAt, hh, hrl]) hRng.mp hel.1 h.nd

end Go.Proofs.Ytajmbafljncjcaa.Mp
