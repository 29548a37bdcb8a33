/- Maps that a call makes, by their entries in a list: look-up and store, whatever the keys. Over any program. -/
import Derived.Test.YtajmbafljncjcaaWMore
import Derived.DeepKeys3
namespace Go.Proofs.Ytajmbafljncjcaa.Mp
open Go.RowKit Go.Proofs.YtajmbafljncjcaaW.PrintWords
set_option linter.unusedVariables false
set_option linter.unusedSimpArgs false

/-- The entries of a map, in the order in which they were put. -/
def MapAt {κ ν : Type} (ek : κ → Value) (ev : ν → Value) (w : World) (b : Nat) (l : List (κ × ν)) : Prop :=
  ∃ es clock, w.heap[b]? = some (.map es clock) ∧ es.toList.map (fun e => (e.key, e.val)) = l.map (fun p => (ek p.1, ev p.2))

/-- Keys that can be told apart. -/
structure KeyOk {κ : Type} [DecidableEq κ] (P : Program) (kt : TypeId) (ek : κ → Value) (ok : κ → Prop) : Prop where
  chk : ∀ (w : World) (em : Bool) (a : κ), ok a → (Instr.checkKey em 10000 kt (ek a)).run P w = .ok () w
  eq : ∀ (w : World) (a b : κ), ok a → ok b → (Op.equal kt (ek a) (ek b)).run P w = .ok (decide (a = b)) w
  same : ∀ a, ok a → Instr.sameBits 10000 (ek a) (ek a) = true
  und : ∃ d, P.underlying kt = some d ∧ ∀ a b, ok a → ok b → Instr.sameNow d (ek a) (ek b) = none ∨ Instr.sameNow d (ek a) (ek b) = some (decide (a = b))

variable {κ ν : Type} [DecidableEq κ] {P : Program} {kt : TypeId} {ek : κ → Value} {ev : ν → Value} {ok : κ → Prop}

/-- Where a key stands. -/
def place (a : κ) : List (κ × ν) → Option Nat
  | [] => none
  | p :: l => if a = p.1 then some 0 else (place a l).map (· + 1)

theorem findNow_none (d : TypeDesc) (k : Value) (h : ∀ e : MapEntry, Instr.sameNow d k e.key = none) : ∀ (es : List MapEntry) (i : Nat), es ≠ [] → Instr.findNow d k es i = none
  | [], _, hn => absurd rfl hn
  | e :: es, i, _ => by simp [Instr.findNow, h e]

theorem findNow_here (K : KeyOk P kt ek ok) {d : TypeDesc} (a : κ) (ha : ok a) (hd : ∀ a b, ok a → ok b → Instr.sameNow d (ek a) (ek b) = none ∨ Instr.sameNow d (ek a) (ek b) = some (decide (a = b))) :
    ∀ (es : List MapEntry) (l : List (κ × ν)) (i : Nat), es.map (fun e => (e.key, e.val)) = l.map (fun p => (ek p.1, ev p.2)) → (∀ p ∈ l, ok p.1) →
      Instr.findNow d (ek a) es i = none ∨ Instr.findNow d (ek a) es i = some ((place a l).bind fun j => (l[j]?).map fun p => (i + j, ev p.2))
  | [], [], i, _, _ => by simp [Instr.findNow, place]
  | [], _ :: _, _, h, _ => by simp at h
  | _ :: _, [], _, h, _ => by simp at h
  | e :: es, p :: l, i, h, hl => by
    simp only [List.map_cons, List.cons.injEq, Prod.mk.injEq] at h
    obtain ⟨⟨h1, h2⟩, h3⟩ := h
    have hp := hl p List.mem_cons_self
    rcases hd a p.1 ha hp with hs | hs
    · left; simp [Instr.findNow, h1, hs]
    · by_cases he : a = p.1
      · right; rw [Instr.findNow, h1, hs]; simp [he, place, h2]
      · rw [Instr.findNow, h1, hs]
        simp only [he, decide_false]
        rcases findNow_here K a ha hd es l (i + 1) h3 (fun q hq => hl q (List.mem_cons_of_mem _ hq)) with hr | hr
        · exact .inl hr
        · right
          rw [hr, place, if_neg he]
          cases hpl : place a l with
          | none => simp
          | some j => simp [Nat.add_assoc, Nat.add_comm 1 j]

theorem findAsking_here (K : KeyOk P kt ek ok) (w : World) (a : κ) (ha : ok a) :
    ∀ (es : List MapEntry) (l : List (κ × ν)) (i : Nat), es.map (fun e => (e.key, e.val)) = l.map (fun p => (ek p.1, ev p.2)) → (∀ p ∈ l, ok p.1) →
      (Instr.findAsking kt (ek a) es i).run P w = .ok ((place a l).bind fun j => (l[j]?).map fun p => (i + j, ev p.2)) w
  | [], [], i, _, _ => by simp [Instr.findAsking, place]
  | [], _ :: _, _, h, _ => by simp at h
  | _ :: _, [], _, h, _ => by simp at h
  | e :: es, p :: l, i, h, hl => by
    simp only [List.map_cons, List.cons.injEq, Prod.mk.injEq] at h
    obtain ⟨⟨h1, h2⟩, h3⟩ := h
    have hp := hl p List.mem_cons_self
    rw [Instr.findAsking, h1]
    simp only [Sem.run_bind, K.eq w a p.1 ha hp, Result.andThen_ok]
    by_cases he : a = p.1
    · simp [he, place, h2]
    · simp only [he, decide_false, Bool.false_eq_true, if_false]
      rw [findAsking_here K w a ha es l (i + 1) h3 (fun q hq => hl q (List.mem_cons_of_mem _ hq)), place, if_neg he]
      cases hpl : place a l with
      | none => simp
      | some j => simp [Nat.add_assoc, Nat.add_comm 1 j]

theorem findKey_here (K : KeyOk P kt ek ok) (w : World) (a : κ) (ha : ok a) (es : List MapEntry) (l : List (κ × ν)) (h : es.map (fun e => (e.key, e.val)) = l.map (fun p => (ek p.1, ev p.2))) (hl : ∀ p ∈ l, ok p.1) :
    (Instr.findKey kt (ek a) es).run P w = .ok ((place a l).bind fun j => (l[j]?).map fun p => (j, ev p.2)) w := by
  obtain ⟨d, hd, hs⟩ := K.und
  have e0 : (fun j => (l[j]?).map fun p => (0 + j, ev p.2)) = (fun j => (l[j]?).map fun p => (j, ev p.2)) := by funext j; simp
  simp only [Instr.findKey, Sem.run_bind, run_underlying hd, Result.andThen_ok]
  rcases findNow_here K a ha hs es l 0 h hl with hr | hr
  · rw [hr]
    have := findAsking_here K w a ha es l 0 h hl
    rw [e0] at this
    exact this
  · rw [hr, e0]; simp

/-- What a key has, in a list of entries. -/
def at? (a : κ) (l : List (κ × ν)) : Option ν := (place a l).bind fun j => (l[j]?).map (·.2)

/-- The entries behind a store. -/
def put (a : κ) (v : ν) (l : List (κ × ν)) : List (κ × ν) :=
  match place a l with
  | some j => l.set j (a, v)
  | none => l ++ [(a, v)]

theorem place_lt {a : κ} : ∀ {l : List (κ × ν)} {j : Nat}, place a l = some j → ∃ p, l[j]? = some p ∧ p.1 = a
  | [], j, h => by simp [place] at h
  | p :: l, j, h => by
    rw [place] at h
    split at h
    · rename_i he
      simp only [Option.some.injEq] at h
      subst h
      exact ⟨p, rfl, he.symm⟩
    · cases hp : place a l with
      | none => rw [hp] at h; simp at h
      | some k =>
        rw [hp] at h
        simp only [Option.map_some, Option.some.injEq] at h
        subst h
        obtain ⟨q, h1, h2⟩ := place_lt hp
        exact ⟨q, by simpa using h1, h2⟩

theorem run_lookup (K : KeyOk P kt ek ok) {t et : TypeId} (ht : P.underlying t = some (.map kt et)) {z : ν} (hz : ∀ w, (zeroValue et).run P w = .ok (ev z) w) {w : World} {b : Nat} {l : List (κ × ν)} (h : MapAt ek ev w b l) (hl : ∀ p ∈ l, ok p.1) (a : κ) (ha : ok a) :
    (Instr.lookup t (.map (some b)) (ek a) true).run P w = .ok (.tuple #[ev ((at? a l).getD z), .bool (at? a l).isSome]) w := by
  obtain ⟨es, clock, hb, he⟩ := h
  simp only [Instr.lookup, Sem.run_bind, run_underlying ht, Result.andThen_ok]
  have hg : (getObj b).run P w = .ok (.map es clock) w := by simp [getObj, Sem.run, hb]
  simp only [Sem.run_bind, hg, Result.andThen_ok, Sem.run_pure, K.chk w _ a ha, findKey_here K w a ha es.toList l he hl]
  cases hp : place a l with
  | none => simp [at?, hp, hz]
  | some j =>
    obtain ⟨p, hj, _⟩ := place_lt hp
    simp [at?, hp, hj]

theorem run_lookup1 (K : KeyOk P kt ek ok) {t et : TypeId} (ht : P.underlying t = some (.map kt et)) {z : ν} (hz : ∀ w, (zeroValue et).run P w = .ok (ev z) w) {w : World} {b : Nat} {l : List (κ × ν)} (h : MapAt ek ev w b l) (hl : ∀ p ∈ l, ok p.1) (a : κ) (ha : ok a) :
    (Instr.lookup t (.map (some b)) (ek a) false).run P w = .ok (ev ((at? a l).getD z)) w := by
  obtain ⟨es, clock, hb, he⟩ := h
  simp only [Instr.lookup, Sem.run_bind, run_underlying ht, Result.andThen_ok]
  have hg : (getObj b).run P w = .ok (.map es clock) w := by simp [getObj, Sem.run, hb]
  simp only [Sem.run_bind, hg, Result.andThen_ok, Sem.run_pure, K.chk w _ a ha, findKey_here K w a ha es.toList l he hl]
  cases hp : place a l with
  | none => simp [at?, hp, hz]
  | some j =>
    obtain ⟨p, hj, _⟩ := place_lt hp
    simp [at?, hp, hj]

/-- A block with another thing in it. -/
def setObjAt (w : World) (b : Nat) (o : Obj) : World := { w with heap := w.heap.setIfInBounds b o }

theorem run_update (K : KeyOk P kt ek ok) {t et : TypeId} (ht : P.underlying t = some (.map kt et)) {w : World} {b : Nat} {l : List (κ × ν)} (h : MapAt ek ev w b l) (hl : ∀ p ∈ l, ok p.1) (a : κ) (ha : ok a) (v : ν) :
    ∃ o, (Instr.mapUpdate t (.map (some b)) (ek a) (ev v)).run P w = .ok () (setObjAt w b o) ∧ MapAt ek ev (setObjAt w b o) b (put a v l) := by
  obtain ⟨es, clock, hb, he⟩ := h
  have hlt : b < w.heap.size := (Array.getElem?_eq_some_iff.1 hb).1
  have hg : (getObj b).run P w = .ok (.map es clock) w := by simp [getObj, Sem.run, hb]
  have hset : ∀ o, (setObj b o).run P w = .ok () (setObjAt w b o) := fun o => by simp [setObj, Sem.run, hb, setObjAt]
  have hnew : ∀ o, (setObjAt w b o).heap[b]? = some o := fun o => by simp [setObjAt, hlt]
  simp only [Instr.mapUpdate, Sem.run_bind, run_underlying ht, Result.andThen_ok, hg, K.chk w _ a ha, findKey_here K w a ha es.toList l he hl]
  cases hp : place a l with
  | none =>
    refine ⟨.map (es.push { key := ek a, val := ev v, born := clock }) (clock + 1), by simp [hset], _, _, hnew _, ?_⟩
    simp [put, hp, he]
  | some j =>
    obtain ⟨p, hj, hpa⟩ := place_lt hp
    have hej : (es.toList.map (fun e => (e.key, e.val)))[j]? = some (ek a, ev p.2) := by rw [he, List.getElem?_map, hj]; simp [hpa]
    rw [List.getElem?_map] at hej
    obtain ⟨e0, h0, h1⟩ := Option.map_eq_some_iff.1 hej
    have h0' : es[j]? = some e0 := by simpa using h0
    simp only [Prod.mk.injEq] at h1
    have hk : (Instr.keyThatStays (ek a) (ek a)).run P w = .ok (ek a) w := by simp [Instr.keyThatStays, K.same a ha]
    refine ⟨.map (es.modify j fun e => { e with key := ek a, val := ev v }) clock, ?_, _, _, hnew _, ?_⟩
    · simp [hj, h0', h1.1, hk, hset]
    · simp only [put, hp, Array.toList_modify]
      apply List.ext_getElem?
      intro i
      have hei := congrArg (·[i]?) he
      simp only [List.getElem?_map] at hei
      simp only [List.getElem?_map, List.getElem?_modify, List.getElem?_set]
      have hjl : j < l.length := (List.getElem?_eq_some_iff.1 hj).1
      by_cases hij : j = i
      · subst hij
        simp [h0, hjl]
      · simp only [if_neg hij]
        simpa using hei

omit [DecidableEq κ] in
theorem MapAt.setObj_other {w : World} {b b' : Nat} {l : List (κ × ν)} (h : MapAt ek ev w b l) (hne : b ≠ b') (o : Obj) : MapAt ek ev (setObjAt w b' o) b l := by
  obtain ⟨es, clock, hb, he⟩ := h
  exact ⟨es, clock, by simpa [setObjAt, Array.getElem?_setIfInBounds, Ne.symm hne] using hb, he⟩

omit [DecidableEq κ] in
theorem MapAt.block {w w1 : World} {b : Nat} {l : List (κ × ν)} (h : MapAt ek ev w b l) (hb : w1.heap[b]? = w.heap[b]?) : MapAt ek ev w1 b l := by
  obtain ⟨es, clock, h1, he⟩ := h
  exact ⟨es, clock, by rw [hb]; exact h1, he⟩

omit [DecidableEq κ] in
theorem MapAt.lt {w : World} {b : Nat} {l : List (κ × ν)} (h : MapAt ek ev w b l) : b < w.heap.size := by
  obtain ⟨es, clock, hb, _⟩ := h
  exact (Array.getElem?_eq_some_iff.1 hb).1

omit [DecidableEq κ] in
theorem mapAt_new (w : World) (ek : κ → Value) (ev : ν → Value) : MapAt ek ev (w.alloc (.map #[] 0)) w.heap.size ([] : List (κ × ν)) := ⟨#[], 0, heap_alloc_new w _, rfl⟩

/-! ### keys: a row of whole numbers as an array -/
theorem all_range_nat : ∀ (xs ys : List Nat), xs.length = ys.length → ((List.range xs.length).all fun i => xs.getD i 0 == ys.getD i 0) = decide (xs = ys)
  | [], [], _ => rfl
  | x :: xs, y :: ys, h => by
    have ih := all_range_nat xs ys (by simpa using h)
    rw [List.length_cons, List.range_succ_eq_map, List.all_cons, List.all_map]
    simp only [List.getD_cons_zero, Function.comp_def, List.getD_cons_succ, ih]
    rw [Bool.eq_iff_iff]; simp
  | [], _ :: _, h => by simp at h
  | _ :: _, [], h => by simp at h

def natCells (k : IntKind) (xs : List Nat) : List Value := xs.map fun x : Nat => Value.int k (x : Int)

theorem run_equalIn_nats (d : Nat) (t e : TypeId) (n : Nat) (k : IntKind) (ht : P.underlying t = some (.array n e)) (he : P.underlying e = some (.int k)) (hsz : ∀ w, (sizeOf e).run P w = .ok 1 w)
    (w : World) (xs ys : List Nat) (hx : xs.length = n) (hy : ys.length = n) :
    (Op.equalIn (d + 2) t (.agg (natCells k xs).toArray) (.agg (natCells k ys).toArray)).run P w = .ok (decide (xs = ys)) w := by
  rw [← all_range_nat xs ys (hx.trans hy.symm), hx, List.range_eq_range', Op.equalIn]
  simp only [Sem.run_bind, run_underlying ht, Result.andThen_ok, hsz, Std.Legacy.Range.forIn_eq_forIn_range', Std.Legacy.Range.size, Nat.sub_zero, Nat.add_sub_cancel, Nat.div_one]
  have hl : ∀ i ∈ List.range' 0 n 1, i < n := fun i hi => by simpa using (List.mem_range'_1.1 hi).2
  generalize List.range' 0 n 1 = l at hl ⊢
  induction l with
  | nil => simp
  | cons i l ih =>
    have hi : i < n := hl i (by simp)
    have px : (part e (natCells k xs).toArray (i * 1)).run P w = .ok (.int k (xs.getD i 0 : Nat)) w := by
      simp [part, isAgg, run_underlying he, natCells, List.getD, List.getElem?_eq_getElem (show i < xs.length by omega)]
    have py : (part e (natCells k ys).toArray (i * 1)).run P w = .ok (.int k (ys.getD i 0 : Nat)) w := by
      simp [part, isAgg, run_underlying he, natCells, List.getD, List.getElem?_eq_getElem (show i < ys.length by omega)]
    have pe : (Op.equalIn (d + 1) e (.int k (xs.getD i 0 : Nat)) (.int k (ys.getD i 0 : Nat))).run P w = .ok (xs.getD i 0 == ys.getD i 0) w := by
      rw [run_equalIn_int w d e k k _ _ he]
      have : ((xs.getD i 0 : Nat) : Int) = ((ys.getD i 0 : Nat) : Int) ↔ xs.getD i 0 = ys.getD i 0 := by omega
      congr 1
      rw [Bool.eq_iff_iff, beq_iff_eq, beq_iff_eq]
      exact this
    simp only [List.forIn_cons, Sem.run_bind, px, py, pe, Result.andThen_ok, List.all_cons]
    cases hb : (xs.getD i 0 == ys.getD i 0)
    · simp
    · simp only [Bool.not_true, Bool.false_eq_true, if_false, Sem.run_pure, Result.andThen_ok, Bool.true_and]
      exact ih fun j hj => hl j (by simp [hj])

theorem run_checkKey_nats (em : Bool) (d : Nat) (t e : TypeId) (n : Nat) (k : IntKind) (ht : P.underlying t = some (.array n e)) (he : P.underlying e = some (.int k)) (hsz : ∀ w, (sizeOf e).run P w = .ok 1 w)
    (w : World) (xs : List Nat) (hx : xs.length = n) :
    (Instr.checkKey em (d + 2) t (.agg (natCells k xs).toArray)).run P w = .ok () w := by
  rw [Instr.checkKey]
  simp only [Sem.run_bind, run_underlying ht, Result.andThen_ok, hsz, Std.Legacy.Range.forIn_eq_forIn_range', Std.Legacy.Range.size, Nat.sub_zero, Nat.add_sub_cancel, Nat.div_one]
  have hl : ∀ i ∈ List.range' 0 n 1, i < n := fun i hi => by simpa using (List.mem_range'_1.1 hi).2
  generalize List.range' 0 n 1 = l at hl ⊢
  induction l with
  | nil => simp
  | cons i l ih =>
    have hi : i < n := hl i (by simp)
    have px : (part e (natCells k xs).toArray (i * 1)).run P w = .ok (.int k (xs.getD i 0 : Nat)) w := by
      simp [part, isAgg, run_underlying he, natCells, List.getD, List.getElem?_eq_getElem (show i < xs.length by omega)]
    have pe : (Instr.checkKey em (d + 1) e (.int k (xs.getD i 0 : Nat))).run P w = .ok () w := by
      simp [Instr.checkKey, run_underlying he]
    have ih' := ih fun j hj => hl j (by simp [hj])
    simp only [List.forIn_cons, Sem.run_bind, hsz, px, pe, Result.andThen_ok, Sem.run_pure]
    simpa using ih'

theorem sameBits_nats (d : Nat) (k : IntKind) (xs : List Nat) : Instr.sameBits (d + 1) (.agg (natCells k xs).toArray) (.agg (natCells k xs).toArray) = true := by
  simp only [Instr.sameBits, List.size_toArray, beq_self_eq_true, Bool.true_and]
  induction xs with
  | nil => rfl
  | cons x xs ih =>
    simp only [natCells, List.map_cons, List.zip_cons_cons, List.all_cons] at ih ⊢
    rw [ih]
    cases d <;> simp [Instr.sameBits]

theorem nats_ok {t e : TypeId} {n : Nat} {k : IntKind} (ht : P.underlying t = some (.array n e)) (he : P.underlying e = some (.int k)) (hsz : ∀ w, (sizeOf e).run P w = .ok 1 w) :
    KeyOk P t (fun xs => Value.agg (natCells k xs).toArray) (fun xs => xs.length = n) where
  chk := fun w em a ha => run_checkKey_nats em 9998 t e n k ht he hsz w a ha
  eq := fun w a b ha hb => run_equalIn_nats 9998 t e n k ht he hsz w a b ha hb
  same := fun a _ => sameBits_nats 9999 k a
  und := ⟨_, ht, fun a b _ _ => .inl rfl⟩

end Go.Proofs.Ytajmbafljncjcaa.Mp
