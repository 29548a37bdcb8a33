/- A table in memory: its cells, what it says; no function is walked here. Look: what a table says of a code point. Plain lists: unlike blocks, numbered in the order in which they come first. No program here. Maps that a call makes, by their entries in a list: look-up and store, whatever the keys. Over any program. What a call leaves as it was: all blocks but some. Words on blocks of one's own. Over any program. Plain lists: rows laid over a block. No program here. Plain lists: all code points in stretches of one number. No program here. -/
import Derived.Test.YtajmbafljncjcaaWMore
import Derived.Test.YtajmbafljncjcaaChecked
import Derived.DeepKeys3
/- ### Tab: A table in memory: its cells, what it says; no function is walked here. -/
namespace Go.Proofs.Ytajmbafljncjcaa.Stage
open Go.RowKit Go.Proofs.YtajmbafljncjcaaW.PrintWords Go.Proofs.YtajmbafljncjcaaW.PrintLast Go.Proofs.YtajmbafljncjcaaW.PrintMore
set_option linter.unusedVariables false
set_option linter.unusedSimpArgs false

/-- Which block each stretch is, the unlike blocks, whether each has one number alone. -/
structure Tab where
  which : List Nat
  unlike : List (List Nat)
  plain : List Bool

/-- A table's cells. -/
structure TabIn (w : World) (b g c g' c' : Nat) (t : Tab) : Prop where
  len : t.which.length = 8704
  plen : t.plain.length = t.unlike.length
  cap : t.unlike.length ≤ c
  cap' : t.unlike.length ≤ c'
  few : t.unlike.length ≤ 8704
  idx : ∀ i, i < 8704 → t.which.getD i 0 < t.unlike.length
  blk : ∀ k, k < t.unlike.length → (t.unlike.getD k []).length = 128
  num : ∀ k j, k < t.unlike.length → j < 128 → (t.unlike.getD k []).getD j 0 ≤ 65535
  hw : ∀ i, i < 8704 → w.cell? ⟨b, i, none⟩ = some (.int .u16 (t.which.getD i 0 : Nat))
  hu : w.cell? ⟨b, 8704, none⟩ = some (.slice (some ⟨g, 0, none⟩) t.unlike.length c)
  hp : w.cell? ⟨b, 8705, none⟩ = some (.slice (some ⟨g', 0, none⟩) t.unlike.length c')
  hub : ∀ k j, k < t.unlike.length → j < 128 → w.cell? ⟨g, k * 128 + j, none⟩ = some (.int .u16 ((t.unlike.getD k []).getD j 0 : Nat))
  hpb : ∀ k, k < t.unlike.length → w.cell? ⟨g', k, none⟩ = some (.bool (t.plain.getD k false))

/-- What a table says of a code point. -/
def Tab.say (t : Tab) (p : Nat) : Nat := (t.unlike.getD (t.which.getD (p / 128) 0) []).getD (p % 128) 0

theorem TabIn.below {w w1 : World} {b g c g' c' : Nat} {t : Tab} (h : TabIn w b g c g' c' t) (hb : Below w.heap.size w w1) : TabIn w1 b g c g' c' t :=
  { h with
    hw := fun i hi => pw_cell_below hb (h.hw i hi)
    hu := pw_cell_below hb h.hu
    hp := pw_cell_below hb h.hp
    hub := fun k j hk hj => pw_cell_below hb (h.hub k j hk hj)
    hpb := fun k hk => pw_cell_below hb (h.hpb k hk) }

theorem cell_same {w w1 : World} (h : ∀ k, k < w.heap.size → w1.heap[k]? = w.heap[k]?) {a : Addr} {v : Value} (hc : w.cell? a = some v) : w1.cell? a = some v :=
  (World.cell?_of_block (h a.block (World.block_lt_of_cell? w a hc))).trans hc
theorem TabIn.same {w w1 : World} {b g c g' c' : Nat} {t : Tab} (h : TabIn w b g c g' c' t) (hb : ∀ k, k < w.heap.size → w1.heap[k]? = w.heap[k]?) : TabIn w1 b g c g' c' t :=
  { h with
    hw := fun i hi => cell_same hb (h.hw i hi)
    hu := cell_same hb h.hu
    hp := cell_same hb h.hp
    hub := fun k j hk hj => cell_same hb (h.hub k j hk hj)
    hpb := fun k hk => cell_same hb (h.hpb k hk) }

end Go.Proofs.Ytajmbafljncjcaa.Stage

/- ### Look: Look: what a table says of a code point. -/
namespace Go.Proofs.Ytajmbafljncjcaa.Stage
open Go.RowKit Go.Proofs.YtajmbafljncjcaaW.PrintWords Go.Proofs.YtajmbafljncjcaaW.PrintLast Go.Proofs.YtajmbafljncjcaaW.PrintMore
set_option linter.unusedVariables false
set_option linter.unusedSimpArgs false

theorem look_nil (p : Int) (w : World) : Calls Try.prog 17 #[.pointer none, .int .i32 p] w fun e w' => e = .returned (.int .i64 0) ∧ w = w' := by
  go_enter Try.func17, Try.ntmps17
  go_wp2
  go_ret
  exact ⟨rfl, rfl⟩

set_option maxRecDepth 100000 in
set_option maxHeartbeats 400000 in
theorem look_in {w : World} {b g c g' c' : Nat} {t : Tab} (h : TabIn w b g c g' c' t) (p : Int) (h0 : 0 ≤ p) (h1 : p ≤ 1114111) :
    Calls Try.prog 17 #[.pointer (some ⟨b, 0, none⟩), .int .i32 p] w fun e w' => e = .returned (.int .i64 (t.say p.toNat : Nat)) ∧ ∃ n, w' = w.drewN n := by
  obtain ⟨q, rfl⟩ := Int.eq_ofNat_of_zero_le h0
  rw [Int.toNat_natCast]
  have e1 : IntKind.i32.wrap ((q : Int) / 128) = ((q / 128 : Nat) : Int) := by rw [IntWalk.i32_in _ (by omega)]; omega
  have e2 : (q : Int).tmod 128 = ((q % 128 : Nat) : Int) := by rw [Int.tmod_eq_emod_of_nonneg (by omega)]; omega
  have hs : t.say q = (t.unlike.getD (t.which.getD (q / 128) 0) []).getD (q % 128) 0 := rfl
  have l1 : q / 128 < 8704 := by omega
  have l2 : q % 128 < 128 := by omega
  generalize q / 128 = i at e1 hs l1
  generalize q % 128 = j at e2 hs l2
  have hx := h.idx i l1
  have hcw := h.hw i l1
  generalize t.which.getD i 0 = x at hx hcw hs
  have hcu := h.hu
  have hcb := h.hub x j hx l2
  have hn := h.num x j hx l2
  rw [← hs] at hcb hn
  generalize t.say q = y at hcb hn
  generalize t.unlike.length = m at hx hcu
  have l1' : (i : Int) < 8704 := by omega
  have l2' : (j : Int) < 128 := by omega
  clear h hs
  go_enter Try.func17, Try.ntmps17
  go_wp2
  go_quiet (fail)
  go_wp2
  go_ret
  exact ⟨rfl, nq, rfl⟩

end Go.Proofs.Ytajmbafljncjcaa.Stage

/- ### Canon: Plain lists: unlike blocks, numbered in the order in which they come first. No program here. -/
namespace Go.Proofs.Ytajmbafljncjcaa.Stage
open Go.RowKit Go.Proofs.YtajmbafljncjcaaW.PrintWords
set_option linter.unusedVariables false
set_option linter.unusedSimpArgs false

/-- Where a block stands among the unlike ones; their number, if it is none of them. -/
def idxB (b : List Nat) : List (List Nat) → Nat
  | [] => 0
  | x :: l => if b = x then 0 else idxB b l + 1

theorem idxB_le (b : List Nat) : ∀ l, idxB b l ≤ l.length
  | [] => Nat.le_refl _
  | x :: l => by
    have := idxB_le b l
    unfold idxB
    split <;> simp <;> omega

theorem idxB_get (b : List Nat) : ∀ l, idxB b l < l.length → l.getD (idxB b l) [] = b
  | [], h => by simp [idxB] at h
  | x :: l, h => by
    unfold idxB at h ⊢
    by_cases e : b = x
    · simp [e]
    · rw [if_neg e] at h ⊢
      have := idxB_get b l (by simpa using h)
      simpa using this

theorem idxB_mem (b : List Nat) : ∀ l, idxB b l < l.length ↔ b ∈ l
  | [] => by simp [idxB]
  | x :: l => by
    have := idxB_mem b l
    unfold idxB
    by_cases e : b = x
    · simp [e]
    · rw [if_neg e]
      simp only [List.length_cons, Nat.add_lt_add_iff_right, List.mem_cons, e, false_or]
      exact this

theorem idxB_at {b : List Nat} : ∀ {l : List (List Nat)} {k : Nat}, l.Nodup → k < l.length → l.getD k [] = b → idxB b l = k
  | [], k, _, h, _ => by simp at h
  | x :: l, 0, _, _, h => by
    have : x = b := by simpa using h
    simp [idxB, this]
  | x :: l, k + 1, hn, hk, h => by
    have hn' := List.nodup_cons.1 hn
    have hk' : k < l.length := by simpa using hk
    have h' : l.getD k [] = b := by simpa using h
    have hb : b ∈ l := by rw [← h', List.getD_eq_getElem?_getD, List.getElem?_eq_getElem hk']; exact List.getElem_mem hk'
    have hne : ¬ b = x := fun e => hn'.1 (e ▸ hb)
    unfold idxB
    rw [if_neg hne, idxB_at hn'.2 hk' h']

theorem idxB_append (b : List Nat) (l l' : List (List Nat)) (h : b ∈ l) : idxB b (l ++ l') = idxB b l := by
  induction l with
  | nil => simp at h
  | cons x l ih =>
    simp only [List.cons_append, idxB]
    by_cases e : b = x
    · simp [e]
    · rw [if_neg e, if_neg e, ih (by simpa [e] using h)]

/-- Behind one block more. -/
def stepB (st : List Nat × List (List Nat)) (b : List Nat) : List Nat × List (List Nat) :=
  (st.1 ++ [idxB b st.2], if idxB b st.2 < st.2.length then st.2 else st.2 ++ [b])

/-- The numbers of blocks, the unlike ones. -/
def canonB (bs : List (List Nat)) : List Nat × List (List Nat) := bs.foldl stepB ([], [])

theorem canonB_snoc (bs : List (List Nat)) (b : List Nat) : canonB (bs ++ [b]) = stepB (canonB bs) b := by simp [canonB, List.foldl_append]

structure CanonOk (bs : List (List Nat)) (st : List Nat × List (List Nat)) : Prop where
  len : st.1.length = bs.length
  few : st.2.length ≤ bs.length
  nodup : st.2.Nodup
  mem : ∀ b, b ∈ st.2 ↔ b ∈ bs
  at_ : ∀ i, i < bs.length → st.1.getD i 0 < st.2.length ∧ st.2.getD (st.1.getD i 0) [] = bs.getD i []

theorem getD_snoc_lt {α : Type} (l : List α) (x d : α) (i : Nat) (h : i < l.length) : (l ++ [x]).getD i d = l.getD i d := by
  simp [List.getD_eq_getElem?_getD, List.getElem?_append_left h]
theorem getD_snoc_at {α : Type} (l : List α) (x d : α) : (l ++ [x]).getD l.length d = x := by
  simp [List.getD_eq_getElem?_getD]

theorem stepB_ok {bs : List (List Nat)} {st : List Nat × List (List Nat)} (h : CanonOk bs st) (b : List Nat) : CanonOk (bs ++ [b]) (stepB st b) := by
  have hm := idxB_mem b st.2
  by_cases hb : idxB b st.2 < st.2.length
  · have hin := hm.1 hb
    have e : stepB st b = (st.1 ++ [idxB b st.2], st.2) := by simp [stepB, hb]
    rw [e]
    refine ⟨by simp [h.len], by have := h.few; simp; omega, h.nodup, fun c => ?_, fun i hi => ?_⟩
    · rw [h.mem c]
      have hbb := (h.mem b).1 hin
      constructor
      · intro hc; simp [hc]
      · intro hc
        rcases List.mem_append.1 hc with hc | hc
        · exact hc
        · rw [List.mem_singleton.1 hc]; exact hbb
    · by_cases hi' : i < bs.length
      · have := h.at_ i hi'
        simp only
        rw [getD_snoc_lt _ _ _ _ (by rw [h.len]; exact hi'), getD_snoc_lt _ _ _ _ hi']
        exact this
      · have hie : i = bs.length := by simp at hi; omega
        subst hie
        simp only
        rw [← h.len, getD_snoc_at, h.len, getD_snoc_at]
        exact ⟨hb, idxB_get b st.2 hb⟩
  · have hle := idxB_le b st.2
    have he : idxB b st.2 = st.2.length := by omega
    have hnin : b ∉ st.2 := fun hh => hb (hm.2 hh)
    have e : stepB st b = (st.1 ++ [st.2.length], st.2 ++ [b]) := by simp [stepB, he]
    rw [e]
    refine ⟨by simp [h.len], by have := h.few; simp; omega, ?_, fun c => ?_, fun i hi => ?_⟩
    · rw [List.nodup_append]
      exact ⟨h.nodup, by simp, fun a ha c hc => by rw [List.mem_singleton.1 hc]; exact fun e => hnin (e ▸ ha)⟩
    · simp [h.mem c]
    · by_cases hi' : i < bs.length
      · have := h.at_ i hi'
        simp only
        rw [getD_snoc_lt _ _ _ _ (by rw [h.len]; exact hi'), getD_snoc_lt _ _ _ _ this.1, getD_snoc_lt _ _ _ _ hi']
        exact ⟨by rw [List.length_append]; exact Nat.lt_of_lt_of_le this.1 (Nat.le_add_right _ _), this.2⟩
      · have hie : i = bs.length := by simp at hi; omega
        subst hie
        simp only
        rw [← h.len, getD_snoc_at, getD_snoc_at, h.len, getD_snoc_at]
        exact ⟨by simp, rfl⟩

theorem canonB_ok (bs : List (List Nat)) : CanonOk bs (canonB bs) := by
  have key : ∀ n, n ≤ bs.length → CanonOk (bs.take n) (canonB (bs.take n)) := by
    intro n
    induction n with
    | zero => intro _; exact ⟨rfl, Nat.le_refl _, List.nodup_nil, fun b => by simp [canonB], fun i hi => by simp at hi⟩
    | succ n ih =>
      intro hn
      rw [List.take_succ_eq_append_getElem (show n < bs.length by omega), canonB_snoc]
      exact stepB_ok (ih (by omega)) _
  have := key bs.length (Nat.le_refl _)
  rwa [List.take_length] at this

theorem stepB_ext (wh : List Nat) (ul : List (List Nat)) (b : List Nat) (n : Nat) (ul' : List (List Nat)) (h : stepB (wh, ul) b = (wh ++ [n], ul')) (i : Nat) (hi : i < ul.length) : i < ul'.length ∧ ul'.getD i [] = ul.getD i [] := by
  simp only [stepB, Prod.mk.injEq] at h
  obtain ⟨_, rfl⟩ := h
  split
  · exact ⟨hi, rfl⟩
  · exact ⟨by simp; omega, getD_snoc_lt _ _ _ _ hi⟩
/-- One number alone? -/
def flatB (b : List Nat) : Bool := (List.range 128).all fun j => b.getD j 0 == b.getD 0 0

/-- The table of blocks. -/
def tabOf (bs : List (List Nat)) : Tab := ⟨(canonB bs).1, (canonB bs).2, (canonB bs).2.map flatB⟩

/-- A block of what is said. -/
def blkOf (say : Nat → Nat) (i : Nat) : List Nat := (List.range 128).map fun j => say (128 * i + j)
theorem blkOf_len (say : Nat → Nat) (i : Nat) : (blkOf say i).length = 128 := by simp [blkOf]
theorem blkOf_get (say : Nat → Nat) (i j : Nat) (h : j < 128) : (blkOf say i).getD j 0 = say (128 * i + j) := by
  simp [blkOf, List.getD_eq_getElem?_getD, h]
/-- The blocks of what is said. -/
def blksOf (say : Nat → Nat) : List (List Nat) := (List.range 8704).map (blkOf say)
theorem blksOf_len (say : Nat → Nat) : (blksOf say).length = 8704 := by simp [blksOf]
theorem blksOf_get (say : Nat → Nat) (i : Nat) (h : i < 8704) : (blksOf say).getD i [] = blkOf say i := by
  simp [blksOf, List.getD_eq_getElem?_getD, h]

theorem tabOf_say (bs : List (List Nat)) (p : Nat) : (tabOf bs).say p = ((canonB bs).2.getD ((canonB bs).1.getD (p / 128) 0) []).getD (p % 128) 0 := rfl
/-- The table of what is said. -/
def tabSay (say : Nat → Nat) : Tab := tabOf (blksOf say)

theorem tabSay_say (say : Nat → Nat) (p : Nat) (h : p < 1114112) : (tabSay say).say p = say p := by
  have hl := blksOf_len say
  have hg := blksOf_get say (p / 128) (by omega)
  unfold tabSay
  generalize blksOf say = bs at hl hg
  have hk := (canonB_ok bs).at_ (p / 128) (by omega)
  rw [tabOf_say, hk.2, hg, blkOf_get _ _ _ (by omega)]
  congr 1
  omega

theorem tabSay_blk (say : Nat → Nat) (i : Nat) (h : i < 8704) : (tabSay say).unlike.getD ((tabSay say).which.getD i 0) [] = blkOf say i := by
  have hl := blksOf_len say
  have hg := blksOf_get say i h
  unfold tabSay
  generalize blksOf say = bs at hl hg
  have hk := (canonB_ok bs).at_ i (by omega)
  rw [← hg]
  exact hk.2
theorem TabIn.bound {w : World} {b g c g' c' : Nat} {say : Nat → Nat} (h : TabIn w b g c g' c' (tabSay say)) (p : Nat) (hp : p < 1114112) : say p ≤ 65535 := by
  rw [← tabSay_say say p hp]
  exact h.num _ _ (h.idx _ (by omega)) (by omega)
theorem blksOf_congr {say say' : Nat → Nat} (h : ∀ p, p < 1114112 → say p = say' p) : blksOf say = blksOf say' := by
  unfold blksOf
  refine List.map_congr_left fun i hi => ?_
  unfold blkOf
  refine List.map_congr_left fun j hj => ?_
  have h1 := List.mem_range.1 hi
  have h2 := List.mem_range.1 hj
  exact h _ (by omega)
theorem tabSay_congr {say say' : Nat → Nat} (h : ∀ p, p < 1114112 → say p = say' p) : tabSay say = tabSay say' := by
  unfold tabSay
  rw [blksOf_congr h]

/-- A table in memory that says this: b its block; it is as it is built. -/
def TabSays (w : World) (b : Nat) (say : Nat → Nat) : Prop := ∃ g c g' c', TabIn w b g c g' c' (tabSay say)

/-- A table's handle, nil too. -/
def Han (w : World) (v : Option Addr) (say : Nat → Nat) : Prop :=
  (v = none ∧ ∀ p, p < 1114112 → say p = 0) ∨ ∃ b, v = some ⟨b, 0, none⟩ ∧ TabSays w b say

theorem TabSays.below {w w1 : World} {b : Nat} {say : Nat → Nat} (h : TabSays w b say) (hb : Below w.heap.size w w1) : TabSays w1 b say := by
  obtain ⟨g, c, g', c', h⟩ := h
  exact ⟨g, c, g', c', h.below hb⟩
theorem Han.below {w w1 : World} {v : Option Addr} {say : Nat → Nat} (h : Han w v say) (hb : Below w.heap.size w w1) : Han w1 v say := by
  rcases h with h | ⟨b, e, h⟩
  · exact .inl h
  · exact .inr ⟨b, e, h.below hb⟩

end Go.Proofs.Ytajmbafljncjcaa.Stage

/- ### Map: Maps that a call makes, by their entries in a list: look-up and store, whatever the keys. Over any program. -/
namespace Go.Proofs.Ytajmbafljncjcaa.Mp
open Go.RowKit Go.Proofs.YtajmbafljncjcaaW.PrintWords
set_option linter.unusedVariables false
set_option linter.unusedSimpArgs false

/-- The entries of a map, in the order in which they were put. -/
def MapAt {κ ν : Type} (ek : κ → Value) (ev : ν → Value) (w : World) (b : Nat) (l : List (κ × ν)) : Prop :=
  ∃ es clock, w.heap[b]? = some (.map es clock) ∧ es.toList.map (fun e => (e.key, e.val)) = l.map (fun p => (ek p.1, ev p.2))

/-- Keys that can be told apart. -/
structure KeyOk {κ : Type} [DecidableEq κ] (P : Program) (kt : TypeId) (ek : κ → Value) (ok : κ → Prop) : Prop where
  chk : ∀ (w : World) (em : Bool) (a : κ), ok a → (Instr.checkKey em 10000 kt (ek a)).run P w = .ok () w
  eq : ∀ (w : World) (a b : κ), ok a → ok b → (Op.equal kt (ek a) (ek b)).run P w = .ok (decide (a = b)) w
  same : ∀ a, ok a → Instr.sameBits 10000 (ek a) (ek a) = true
  und : ∃ d, P.underlying kt = some d ∧ ∀ a b, ok a → ok b → Instr.sameNow d (ek a) (ek b) = none ∨ Instr.sameNow d (ek a) (ek b) = some (decide (a = b))

variable {κ ν : Type} [DecidableEq κ] {P : Program} {kt : TypeId} {ek : κ → Value} {ev : ν → Value} {ok : κ → Prop}

/-- Where a key stands. -/
def place (a : κ) : List (κ × ν) → Option Nat
  | [] => none
  | p :: l => if a = p.1 then some 0 else (place a l).map (· + 1)

theorem findNow_none (d : TypeDesc) (k : Value) (h : ∀ e : MapEntry, Instr.sameNow d k e.key = none) : ∀ (es : List MapEntry) (i : Nat), es ≠ [] → Instr.findNow d k es i = none
  | [], _, hn => absurd rfl hn
  | e :: es, i, _ => by simp [Instr.findNow, h e]

theorem findNow_here (K : KeyOk P kt ek ok) {d : TypeDesc} (a : κ) (ha : ok a) (hd : ∀ a b, ok a → ok b → Instr.sameNow d (ek a) (ek b) = none ∨ Instr.sameNow d (ek a) (ek b) = some (decide (a = b))) :
    ∀ (es : List MapEntry) (l : List (κ × ν)) (i : Nat), es.map (fun e => (e.key, e.val)) = l.map (fun p => (ek p.1, ev p.2)) → (∀ p ∈ l, ok p.1) →
      Instr.findNow d (ek a) es i = none ∨ Instr.findNow d (ek a) es i = some ((place a l).bind fun j => (l[j]?).map fun p => (i + j, ev p.2))
  | [], [], i, _, _ => by simp [Instr.findNow, place]
  | [], _ :: _, _, h, _ => by simp at h
  | _ :: _, [], _, h, _ => by simp at h
  | e :: es, p :: l, i, h, hl => by
    simp only [List.map_cons, List.cons.injEq, Prod.mk.injEq] at h
    obtain ⟨⟨h1, h2⟩, h3⟩ := h
    have hp := hl p List.mem_cons_self
    rcases hd a p.1 ha hp with hs | hs
    · left; simp [Instr.findNow, h1, hs]
    · by_cases he : a = p.1
      · right; rw [Instr.findNow, h1, hs]; simp [he, place, h2]
      · rw [Instr.findNow, h1, hs]
        simp only [he, decide_false]
        rcases findNow_here K a ha hd es l (i + 1) h3 (fun q hq => hl q (List.mem_cons_of_mem _ hq)) with hr | hr
        · exact .inl hr
        · right
          rw [hr, place, if_neg he]
          cases hpl : place a l with
          | none => simp
          | some j => simp [Nat.add_assoc, Nat.add_comm 1 j]

theorem findAsking_here (K : KeyOk P kt ek ok) (w : World) (a : κ) (ha : ok a) :
    ∀ (es : List MapEntry) (l : List (κ × ν)) (i : Nat), es.map (fun e => (e.key, e.val)) = l.map (fun p => (ek p.1, ev p.2)) → (∀ p ∈ l, ok p.1) →
      (Instr.findAsking kt (ek a) es i).run P w = .ok ((place a l).bind fun j => (l[j]?).map fun p => (i + j, ev p.2)) w
  | [], [], i, _, _ => by simp [Instr.findAsking, place]
  | [], _ :: _, _, h, _ => by simp at h
  | _ :: _, [], _, h, _ => by simp at h
  | e :: es, p :: l, i, h, hl => by
    simp only [List.map_cons, List.cons.injEq, Prod.mk.injEq] at h
    obtain ⟨⟨h1, h2⟩, h3⟩ := h
    have hp := hl p List.mem_cons_self
    rw [Instr.findAsking, h1]
    simp only [Sem.run_bind, K.eq w a p.1 ha hp, Result.andThen_ok]
    by_cases he : a = p.1
    · simp [he, place, h2]
    · simp only [he, decide_false, Bool.false_eq_true, if_false]
      rw [findAsking_here K w a ha es l (i + 1) h3 (fun q hq => hl q (List.mem_cons_of_mem _ hq)), place, if_neg he]
      cases hpl : place a l with
      | none => simp
      | some j => simp [Nat.add_assoc, Nat.add_comm 1 j]

theorem findKey_here (K : KeyOk P kt ek ok) (w : World) (a : κ) (ha : ok a) (es : List MapEntry) (l : List (κ × ν)) (h : es.map (fun e => (e.key, e.val)) = l.map (fun p => (ek p.1, ev p.2))) (hl : ∀ p ∈ l, ok p.1) :
    (Instr.findKey kt (ek a) es).run P w = .ok ((place a l).bind fun j => (l[j]?).map fun p => (j, ev p.2)) w := by
  obtain ⟨d, hd, hs⟩ := K.und
  have e0 : (fun j => (l[j]?).map fun p => (0 + j, ev p.2)) = (fun j => (l[j]?).map fun p => (j, ev p.2)) := by funext j; simp
  simp only [Instr.findKey, Sem.run_bind, run_underlying hd, Result.andThen_ok]
  rcases findNow_here K a ha hs es l 0 h hl with hr | hr
  · rw [hr]
    have := findAsking_here K w a ha es l 0 h hl
    rw [e0] at this
    exact this
  · rw [hr, e0]; simp

/-- What a key has, in a list of entries. -/
def at? (a : κ) (l : List (κ × ν)) : Option ν := (place a l).bind fun j => (l[j]?).map (·.2)

/-- The entries behind a store. -/
def put (a : κ) (v : ν) (l : List (κ × ν)) : List (κ × ν) :=
  match place a l with
  | some j => l.set j (a, v)
  | none => l ++ [(a, v)]

theorem place_lt {a : κ} : ∀ {l : List (κ × ν)} {j : Nat}, place a l = some j → ∃ p, l[j]? = some p ∧ p.1 = a
  | [], j, h => by simp [place] at h
  | p :: l, j, h => by
    rw [place] at h
    split at h
    · rename_i he
      simp only [Option.some.injEq] at h
      subst h
      exact ⟨p, rfl, he.symm⟩
    · cases hp : place a l with
      | none => rw [hp] at h; simp at h
      | some k =>
        rw [hp] at h
        simp only [Option.map_some, Option.some.injEq] at h
        subst h
        obtain ⟨q, h1, h2⟩ := place_lt hp
        exact ⟨q, by simpa using h1, h2⟩

theorem run_lookup (K : KeyOk P kt ek ok) {t et : TypeId} (ht : P.underlying t = some (.map kt et)) {z : ν} (hz : ∀ w, (zeroValue et).run P w = .ok (ev z) w) {w : World} {b : Nat} {l : List (κ × ν)} (h : MapAt ek ev w b l) (hl : ∀ p ∈ l, ok p.1) (a : κ) (ha : ok a) :
    (Instr.lookup t (.map (some b)) (ek a) true).run P w = .ok (.tuple #[ev ((at? a l).getD z), .bool (at? a l).isSome]) w := by
  obtain ⟨es, clock, hb, he⟩ := h
  simp only [Instr.lookup, Sem.run_bind, run_underlying ht, Result.andThen_ok]
  have hg : (getObj b).run P w = .ok (.map es clock) w := by simp [getObj, Sem.run, hb]
  simp only [Sem.run_bind, hg, Result.andThen_ok, Sem.run_pure, K.chk w _ a ha, findKey_here K w a ha es.toList l he hl]
  cases hp : place a l with
  | none => simp [at?, hp, hz]
  | some j =>
    obtain ⟨p, hj, _⟩ := place_lt hp
    simp [at?, hp, hj]

theorem run_lookup1 (K : KeyOk P kt ek ok) {t et : TypeId} (ht : P.underlying t = some (.map kt et)) {z : ν} (hz : ∀ w, (zeroValue et).run P w = .ok (ev z) w) {w : World} {b : Nat} {l : List (κ × ν)} (h : MapAt ek ev w b l) (hl : ∀ p ∈ l, ok p.1) (a : κ) (ha : ok a) :
    (Instr.lookup t (.map (some b)) (ek a) false).run P w = .ok (ev ((at? a l).getD z)) w := by
  obtain ⟨es, clock, hb, he⟩ := h
  simp only [Instr.lookup, Sem.run_bind, run_underlying ht, Result.andThen_ok]
  have hg : (getObj b).run P w = .ok (.map es clock) w := by simp [getObj, Sem.run, hb]
  simp only [Sem.run_bind, hg, Result.andThen_ok, Sem.run_pure, K.chk w _ a ha, findKey_here K w a ha es.toList l he hl]
  cases hp : place a l with
  | none => simp [at?, hp, hz]
  | some j =>
    obtain ⟨p, hj, _⟩ := place_lt hp
    simp [at?, hp, hj]

/-- A block with another thing in it. -/
def setObjAt (w : World) (b : Nat) (o : Obj) : World := { w with heap := w.heap.setIfInBounds b o }

theorem run_update (K : KeyOk P kt ek ok) {t et : TypeId} (ht : P.underlying t = some (.map kt et)) {w : World} {b : Nat} {l : List (κ × ν)} (h : MapAt ek ev w b l) (hl : ∀ p ∈ l, ok p.1) (a : κ) (ha : ok a) (v : ν) :
    ∃ o, (Instr.mapUpdate t (.map (some b)) (ek a) (ev v)).run P w = .ok () (setObjAt w b o) ∧ MapAt ek ev (setObjAt w b o) b (put a v l) := by
  obtain ⟨es, clock, hb, he⟩ := h
  have hlt : b < w.heap.size := (Array.getElem?_eq_some_iff.1 hb).1
  have hg : (getObj b).run P w = .ok (.map es clock) w := by simp [getObj, Sem.run, hb]
  have hset : ∀ o, (setObj b o).run P w = .ok () (setObjAt w b o) := fun o => by simp [setObj, Sem.run, hb, setObjAt]
  have hnew : ∀ o, (setObjAt w b o).heap[b]? = some o := fun o => by simp [setObjAt, hlt]
  simp only [Instr.mapUpdate, Sem.run_bind, run_underlying ht, Result.andThen_ok, hg, K.chk w _ a ha, findKey_here K w a ha es.toList l he hl]
  cases hp : place a l with
  | none =>
    refine ⟨.map (es.push { key := ek a, val := ev v, born := clock }) (clock + 1), by simp [hset], _, _, hnew _, ?_⟩
    simp [put, hp, he]
  | some j =>
    obtain ⟨p, hj, hpa⟩ := place_lt hp
    have hej : (es.toList.map (fun e => (e.key, e.val)))[j]? = some (ek a, ev p.2) := by rw [he, List.getElem?_map, hj]; simp [hpa]
    rw [List.getElem?_map] at hej
    obtain ⟨e0, h0, h1⟩ := Option.map_eq_some_iff.1 hej
    have h0' : es[j]? = some e0 := by simpa using h0
    simp only [Prod.mk.injEq] at h1
    have hk : (Instr.keyThatStays (ek a) (ek a)).run P w = .ok (ek a) w := by simp [Instr.keyThatStays, K.same a ha]
    refine ⟨.map (es.modify j fun e => { e with key := ek a, val := ev v }) clock, ?_, _, _, hnew _, ?_⟩
    · simp [hj, h0', h1.1, hk, hset]
    · simp only [put, hp, Array.toList_modify]
      apply List.ext_getElem?
      intro i
      have hei := congrArg (·[i]?) he
      simp only [List.getElem?_map] at hei
      simp only [List.getElem?_map, List.getElem?_modify, List.getElem?_set]
      have hjl : j < l.length := (List.getElem?_eq_some_iff.1 hj).1
      by_cases hij : j = i
      · subst hij
        simp [h0, hjl]
      · simp only [if_neg hij]
        simpa using hei

omit [DecidableEq κ] in
theorem MapAt.setObj_other {w : World} {b b' : Nat} {l : List (κ × ν)} (h : MapAt ek ev w b l) (hne : b ≠ b') (o : Obj) : MapAt ek ev (setObjAt w b' o) b l := by
  obtain ⟨es, clock, hb, he⟩ := h
  exact ⟨es, clock, by simpa [setObjAt, Array.getElem?_setIfInBounds, Ne.symm hne] using hb, he⟩

omit [DecidableEq κ] in
theorem MapAt.block {w w1 : World} {b : Nat} {l : List (κ × ν)} (h : MapAt ek ev w b l) (hb : w1.heap[b]? = w.heap[b]?) : MapAt ek ev w1 b l := by
  obtain ⟨es, clock, h1, he⟩ := h
  exact ⟨es, clock, by rw [hb]; exact h1, he⟩

omit [DecidableEq κ] in
theorem MapAt.lt {w : World} {b : Nat} {l : List (κ × ν)} (h : MapAt ek ev w b l) : b < w.heap.size := by
  obtain ⟨es, clock, hb, _⟩ := h
  exact (Array.getElem?_eq_some_iff.1 hb).1

omit [DecidableEq κ] in
theorem mapAt_new (w : World) (ek : κ → Value) (ev : ν → Value) : MapAt ek ev (w.alloc (.map #[] 0)) w.heap.size ([] : List (κ × ν)) := ⟨#[], 0, heap_alloc_new w _, rfl⟩

/- ### keys: a row of whole numbers as an array -/
theorem all_range_nat : ∀ (xs ys : List Nat), xs.length = ys.length → ((List.range xs.length).all fun i => xs.getD i 0 == ys.getD i 0) = decide (xs = ys)
  | [], [], _ => rfl
  | x :: xs, y :: ys, h => by
    have ih := all_range_nat xs ys (by simpa using h)
    rw [List.length_cons, List.range_succ_eq_map, List.all_cons, List.all_map]
    simp only [List.getD_cons_zero, Function.comp_def, List.getD_cons_succ, ih]
    rw [Bool.eq_iff_iff]; simp
  | [], _ :: _, h => by simp at h
  | _ :: _, [], h => by simp at h

def natCells (k : IntKind) (xs : List Nat) : List Value := xs.map fun x : Nat => Value.int k (x : Int)

theorem run_equalIn_nats (d : Nat) (t e : TypeId) (n : Nat) (k : IntKind) (ht : P.underlying t = some (.array n e)) (he : P.underlying e = some (.int k)) (hsz : ∀ w, (sizeOf e).run P w = .ok 1 w)
    (w : World) (xs ys : List Nat) (hx : xs.length = n) (hy : ys.length = n) :
    (Op.equalIn (d + 2) t (.agg (natCells k xs).toArray) (.agg (natCells k ys).toArray)).run P w = .ok (decide (xs = ys)) w := by
  rw [← all_range_nat xs ys (hx.trans hy.symm), hx, List.range_eq_range', Op.equalIn]
  simp only [Sem.run_bind, run_underlying ht, Result.andThen_ok, hsz, Std.Legacy.Range.forIn_eq_forIn_range', Std.Legacy.Range.size, Nat.sub_zero, Nat.add_sub_cancel, Nat.div_one]
  have hl : ∀ i ∈ List.range' 0 n 1, i < n := fun i hi => by simpa using (List.mem_range'_1.1 hi).2
  generalize List.range' 0 n 1 = l at hl ⊢
  induction l with
  | nil => simp
  | cons i l ih =>
    have hi : i < n := hl i (by simp)
    have px : (part e (natCells k xs).toArray (i * 1)).run P w = .ok (.int k (xs.getD i 0 : Nat)) w := by
      simp [part, isAgg, run_underlying he, natCells, List.getD, List.getElem?_eq_getElem (show i < xs.length by omega)]
    have py : (part e (natCells k ys).toArray (i * 1)).run P w = .ok (.int k (ys.getD i 0 : Nat)) w := by
      simp [part, isAgg, run_underlying he, natCells, List.getD, List.getElem?_eq_getElem (show i < ys.length by omega)]
    have pe : (Op.equalIn (d + 1) e (.int k (xs.getD i 0 : Nat)) (.int k (ys.getD i 0 : Nat))).run P w = .ok (xs.getD i 0 == ys.getD i 0) w := by
      rw [run_equalIn_int w d e k k _ _ he]
      have : ((xs.getD i 0 : Nat) : Int) = ((ys.getD i 0 : Nat) : Int) ↔ xs.getD i 0 = ys.getD i 0 := by omega
      congr 1
      rw [Bool.eq_iff_iff, beq_iff_eq, beq_iff_eq]
      exact this
    simp only [List.forIn_cons, Sem.run_bind, px, py, pe, Result.andThen_ok, List.all_cons]
    cases hb : (xs.getD i 0 == ys.getD i 0)
    · simp
    · simp only [Bool.not_true, Bool.false_eq_true, if_false, Sem.run_pure, Result.andThen_ok, Bool.true_and]
      exact ih fun j hj => hl j (by simp [hj])

theorem run_checkKey_nats (em : Bool) (d : Nat) (t e : TypeId) (n : Nat) (k : IntKind) (ht : P.underlying t = some (.array n e)) (he : P.underlying e = some (.int k)) (hsz : ∀ w, (sizeOf e).run P w = .ok 1 w)
    (w : World) (xs : List Nat) (hx : xs.length = n) :
    (Instr.checkKey em (d + 2) t (.agg (natCells k xs).toArray)).run P w = .ok () w := by
  rw [Instr.checkKey]
  simp only [Sem.run_bind, run_underlying ht, Result.andThen_ok, hsz, Std.Legacy.Range.forIn_eq_forIn_range', Std.Legacy.Range.size, Nat.sub_zero, Nat.add_sub_cancel, Nat.div_one]
  have hl : ∀ i ∈ List.range' 0 n 1, i < n := fun i hi => by simpa using (List.mem_range'_1.1 hi).2
  generalize List.range' 0 n 1 = l at hl ⊢
  induction l with
  | nil => simp
  | cons i l ih =>
    have hi : i < n := hl i (by simp)
    have px : (part e (natCells k xs).toArray (i * 1)).run P w = .ok (.int k (xs.getD i 0 : Nat)) w := by
      simp [part, isAgg, run_underlying he, natCells, List.getD, List.getElem?_eq_getElem (show i < xs.length by omega)]
    have pe : (Instr.checkKey em (d + 1) e (.int k (xs.getD i 0 : Nat))).run P w = .ok () w := by
      simp [Instr.checkKey, run_underlying he]
    have ih' := ih fun j hj => hl j (by simp [hj])
    simp only [List.forIn_cons, Sem.run_bind, hsz, px, pe, Result.andThen_ok, Sem.run_pure]
    simpa using ih'

theorem sameBits_nats (d : Nat) (k : IntKind) (xs : List Nat) : Instr.sameBits (d + 1) (.agg (natCells k xs).toArray) (.agg (natCells k xs).toArray) = true := by
  simp only [Instr.sameBits, List.size_toArray, beq_self_eq_true, Bool.true_and]
  induction xs with
  | nil => rfl
  | cons x xs ih =>
    simp only [natCells, List.map_cons, List.zip_cons_cons, List.all_cons] at ih ⊢
    rw [ih]
    cases d <;> simp [Instr.sameBits]

theorem nats_ok {t e : TypeId} {n : Nat} {k : IntKind} (ht : P.underlying t = some (.array n e)) (he : P.underlying e = some (.int k)) (hsz : ∀ w, (sizeOf e).run P w = .ok 1 w) :
    KeyOk P t (fun xs => Value.agg (natCells k xs).toArray) (fun xs => xs.length = n) where
  chk := fun w em a ha => run_checkKey_nats em 9998 t e n k ht he hsz w a ha
  eq := fun w a b ha hb => run_equalIn_nats 9998 t e n k ht he hsz w a b ha hb
  same := fun a _ => sameBits_nats 9999 k a
  und := ⟨_, ht, fun a b _ _ => .inl rfl⟩

end Go.Proofs.Ytajmbafljncjcaa.Mp

/- ### Keep: What a call leaves as it was: all blocks but some. Words on blocks of one's own. Over any program. -/
namespace Go.Proofs.Ytajmbafljncjcaa.Mp
open Go.RowKit Go.Proofs.YtajmbafljncjcaaW.PrintWords
set_option linter.unusedVariables false
set_option linter.unusedSimpArgs false

/-- Of the blocks of w all but those of Pr are in w' as they were. -/
structure Keeps (Pr : Nat → Prop) (w w' : World) : Prop where
  os : w'.os = w.os
  tape : w'.tape = w.tape
  output : w'.output = w.output
  size : w.heap.size ≤ w'.heap.size
  block : ∀ k, k < w.heap.size → ¬ Pr k → w'.heap[k]? = w.heap[k]?

theorem alloc_size (w : World) (o : Obj) : (w.alloc o).heap.size = w.heap.size + 1 := by simp
theorem Keeps.refl (Pr : Nat → Prop) (w : World) : Keeps Pr w w := ⟨rfl, rfl, rfl, Nat.le_refl _, fun _ _ _ => rfl⟩
theorem Keeps.trans {Pr : Nat → Prop} {a b c : World} (h : Keeps Pr a b) (k : Keeps Pr b c) : Keeps Pr a c :=
  ⟨k.os.trans h.os, k.tape.trans h.tape, k.output.trans h.output, Nat.le_trans h.size k.size, fun i hi hp => (k.block i (Nat.lt_of_lt_of_le hi h.size) hp).trans (h.block i hi hp)⟩
theorem Keeps.mono {Pr Pr' : Nat → Prop} {a b : World} (h : Keeps Pr a b) (hp : ∀ k, k < a.heap.size → Pr k → Pr' k) : Keeps Pr' a b :=
  ⟨h.os, h.tape, h.output, h.size, fun i hi hn => h.block i hi (fun q => hn (hp i hi q))⟩
/-- The new ones of the first step may be written in the second. -/
theorem Keeps.then {Pr Pr' : Nat → Prop} {a b c : World} (h : Keeps Pr a b) (k : Keeps Pr' b c) (hp : ∀ i, i < a.heap.size → Pr' i → Pr i) : Keeps Pr a c :=
  ⟨k.os.trans h.os, k.tape.trans h.tape, k.output.trans h.output, Nat.le_trans h.size k.size, fun i hi hn => (k.block i (Nat.lt_of_lt_of_le hi h.size) (fun q => hn (hp i hi q))).trans (h.block i hi hn)⟩
theorem Keeps.of_below {Pr : Nat → Prop} {a b : World} (h : Below a.heap.size a b) : Keeps Pr a b := ⟨h.os, h.tape, h.output, h.size, fun i hi _ => h.block i hi⟩
theorem Keeps.below {a b : World} (h : Keeps (fun _ => False) a b) : Below a.heap.size a b := ⟨h.os, h.tape, h.output, h.size, fun i hi => h.block i hi (fun q => q)⟩
theorem Keeps.to_below {Pr : Nat → Prop} {a b : World} (h : Keeps Pr a b) (hp : ∀ k, k < a.heap.size → ¬ Pr k) : Below a.heap.size a b := ⟨h.os, h.tape, h.output, h.size, fun i hi => h.block i hi (hp i hi)⟩
theorem Keeps.alloc {Pr : Nat → Prop} {a b : World} (h : Keeps Pr a b) (o : Obj) : Keeps Pr a (b.alloc o) :=
  h.trans (Keeps.of_below ((Below.refl _ _).alloc (Nat.le_refl _) o))
theorem Keeps.drew {Pr : Nat → Prop} {a b : World} (h : Keeps Pr a b) : Keeps Pr a b.drew := ⟨h.os, h.tape, h.output, h.size, h.block⟩
theorem Keeps.drewN {Pr : Nat → Prop} {a b : World} (h : Keeps Pr a b) (n : Nat) : Keeps Pr a (b.drewN n) := ⟨h.os, h.tape, h.output, h.size, h.block⟩
theorem size_setCell (w : World) (p : Addr) (u : Value) : (w.setCell p u).heap.size = w.heap.size := by simp [World.setCell]
theorem Keeps.setCell {Pr : Nat → Prop} {a b : World} (h : Keeps Pr a b) (p : Addr) (u : Value) (hp : p.block < a.heap.size → Pr p.block) : Keeps Pr a (b.setCell p u) :=
  ⟨h.os, h.tape, h.output, by rw [size_setCell]; exact h.size, fun i hi hn => (Below.heap_setCell b p u i (fun e => hn (by subst e; exact hp hi))).trans (h.block i hi hn)⟩
theorem Keeps.setObj {Pr : Nat → Prop} {a b : World} (h : Keeps Pr a b) (k : Nat) (o : Obj) (hp : k < a.heap.size → Pr k) : Keeps Pr a (setObjAt b k o) :=
  ⟨h.os, h.tape, h.output, by simp [setObjAt]; exact h.size, fun i hi hn => by
    have hne : ¬ k = i := fun e => hn (by subst e; exact hp hi)
    rw [← h.block i hi hn]
    simp [setObjAt, Array.getElem?_setIfInBounds, hne]⟩
theorem Keeps.grown {Pr : Nat → Prop} {a b c : World} {row : Option Nat} (h : Keeps Pr a b) (hg : b.grownBy c row) (hr : ∀ k, row = some k → k < a.heap.size → Pr k) : Keeps Pr a c :=
  ⟨hg.os.trans h.os, hg.tape.trans h.tape, hg.output.trans h.output, Nat.le_trans h.size hg.size, fun i hi hn => (hg.block i (Nat.lt_of_lt_of_le hi h.size) (fun e => hn (hr i e.symm hi))).trans (h.block i hi hn)⟩
theorem Keeps.cell {Pr : Nat → Prop} {a b : World} (h : Keeps Pr a b) {p : Addr} {v : Value} (hn : ¬ Pr p.block) (hc : a.cell? p = some v) : b.cell? p = some v :=
  (World.cell?_of_block (h.block p.block (World.block_lt_of_cell? a p hc) hn)).trans hc

/-- A block of whole numbers that is one's own. -/
def Blk (w : World) (b : Nat) (cs : List Value) (t : TypeId) : Prop := w.heap[b]? = some (.cells cs.toArray t (0, 0))

theorem Blk.lt {w : World} {b : Nat} {cs : List Value} {t : TypeId} (h : Blk w b cs t) : b < w.heap.size := (Array.getElem?_eq_some_iff.1 h).1
theorem Blk.cell {w : World} {b : Nat} {cs : List Value} {t : TypeId} (h : Blk w b cs t) (j : Nat) : w.cell? ⟨b, j, none⟩ = cs[j]? := by
  simp [World.cell?, show w.heap[b]? = _ from h]
theorem Blk.free {w : World} {b : Nat} {cs : List Value} {t : TypeId} (h : Blk w b cs t) (j : Nat) : w.frozen? ⟨b, j, none⟩ = false := by
  simp [World.frozen?, show w.heap[b]? = _ from h]
theorem Blk.kept {w w1 : World} {b : Nat} {cs : List Value} {t : TypeId} (h : Blk w b cs t) {Pr : Nat → Prop} (hk : Keeps Pr w w1) (hn : ¬ Pr b) : Blk w1 b cs t := (hk.block b h.lt hn).trans h
theorem Blk.other {w : World} {b : Nat} {cs : List Value} {t : TypeId} (h : Blk w b cs t) {p : Addr} (hn : b ≠ p.block) (u : Value) : Blk (w.setCell p u) b cs t := (Below.heap_setCell w p u b hn).trans h
theorem Blk.set {w : World} {b : Nat} {cs : List Value} {t : TypeId} (h : Blk w b cs t) (j : Nat) (u : Value) : Blk (w.setCell ⟨b, j, none⟩ u) b (cs.set j u) t := by
  have h' : w.heap[b]? = _ := h
  simp [Blk, World.setCell, Array.getElem?_modify, h', List.setIfInBounds_toArray]
theorem Blk.alloc {w : World} {b : Nat} {cs : List Value} {t : TypeId} (h : Blk w b cs t) (o : Obj) : Blk (w.alloc o) b cs t := (Below.heap_alloc w o b h.lt).trans h
theorem Blk.drew {w : World} {b : Nat} {cs : List Value} {t : TypeId} (h : Blk w b cs t) : Blk w.drew b cs t := h
theorem Blk.drewN {w : World} {b : Nat} {cs : List Value} {t : TypeId} (h : Blk w b cs t) (n : Nat) : Blk (w.drewN n) b cs t := h
theorem blk_new (w : World) (cs : List Value) (t : TypeId) : Blk (w.alloc (.cells cs.toArray t (0, 0))) w.heap.size cs t := heap_alloc_new w _
theorem Blk.setObj {w : World} {b k : Nat} {cs : List Value} {t : TypeId} (h : Blk w b cs t) (hn : b ≠ k) (o : Obj) : Blk (setObjAt w k o) b cs t := by
  have h' : w.heap[b]? = _ := h
  simp [Blk, setObjAt, Array.getElem?_setIfInBounds, Ne.symm hn, h']

theorem natCells_get (k : IntKind) (xs : List Nat) (j : Nat) (h : j < xs.length) : (natCells k xs)[j]? = some (.int k (xs.getD j 0 : Nat)) := by
  simp [natCells, List.getD_eq_getElem?_getD, List.getElem?_eq_getElem h]
theorem natCells_set (k : IntKind) (xs : List Nat) (j x : Nat) : (natCells k xs).set j (.int k (x : Int)) = natCells k (xs.set j x) := by simp [natCells, List.map_set]
theorem natCells_len (k : IntKind) (xs : List Nat) : (natCells k xs).length = xs.length := by simp [natCells]

/-- 'xs[m:]' of elements of some cells. -/
theorem cut_rows {P : Program} (t e : TypeId) (sz : Nat) {i : TypeInfo} (ht : P.underlying t = some (.slice e)) (hi : P.info? e = some i) (hsz : i.size = sz) (A : Option Addr) (n c m : Nat) (hm : m ≤ n) (hc : n ≤ c) :
    ∃ A' : Option Addr, (∀ W : World, (Instr.slice t (.slice A n c) (some (.int .i64 (m : Int))) none none).run P W = .ok (.slice A' (n - m) (c - m)) W) ∧
      ∀ g o, A = some ⟨g, o, none⟩ → m < n → A' = some ⟨g, o + m * sz, none⟩ := by
  refine ⟨if c = m then A else A.map (·.add (m * sz)), fun W => ?_, fun g o h1 h2 => ?_⟩
  · have hel : P.elem t = e := by simp [Program.elem, ht]
    have hu : P.underlying t = some (.slice (P.elem t)) := by rw [hel]; exact ht
    rw [run_slice_l W t A n c hu .i64 (m : Int) (Int.natCast_nonneg _) (by omega), hel]
    simp [sizeOf, typeInfo, hi, hsz, sliced, Result.andThen]
  · subst h1
    rw [if_neg (by omega)]
    simp only [Option.map_some, Option.some.injEq]
    unfold Addr.add
    split
    · rename_i h; rw [h]; rfl
    · rfl
theorem max2_nat (k : IntKind) (a b : Nat) : Builtin.max2 (.int k (a : Int)) (.int k (b : Int)) = pure (.int k ((max a b : Nat) : Int)) := by
  simp only [Builtin.max2, gt_iff_lt]
  by_cases h : (a : Int) < (b : Int)
  · rw [if_pos h, Nat.max_eq_right (by omega)]
  · rw [if_neg h, Nat.max_eq_left (by omega)]
theorem min2_nat (k : IntKind) (a b : Nat) : Builtin.min2 (.int k (a : Int)) (.int k (b : Int)) = pure (.int k ((min a b : Nat) : Int)) := by
  simp only [Builtin.min2]
  by_cases h : (b : Int) < (a : Int)
  · rw [if_pos h, Nat.min_eq_right (by omega)]
  · rw [if_neg h, Nat.min_eq_left (by omega)]
theorem info_size {P : Program} {e sz : Nat} (h : (P.info? e).map (·.size) = some sz) : ∃ i, P.info? e = some i ∧ i.size = sz := Option.map_eq_some_iff.1 h

end Go.Proofs.Ytajmbafljncjcaa.Mp

/- ### LayP: Plain lists: rows laid over a block. No program here. -/
namespace Go.Proofs.Ytajmbafljncjcaa.Stage
set_option linter.unusedVariables false
set_option linter.unusedSimpArgs false

/-- What rows say of a code point, if anything. -/
def sayR (l : List (Nat × Nat × Nat)) (p : Nat) : Option Nat := (l.find? fun r => decide (r.1 ≤ p ∧ p ≤ r.2.1)).map (·.2.2)

/-- Rows that rise and lie apart, from at least so much on. -/
def RiseN : Nat → List (Nat × Nat × Nat) → Prop
  | _, [] => True
  | low, r :: l => low ≤ r.1 ∧ r.1 ≤ r.2.1 ∧ r.2.1 ≤ 1114111 ∧ r.2.2 ≤ 65535 ∧ RiseN (r.2.1 + 1) l

abbrev z3 : Nat × Nat × Nat := (0, 0, 0)

theorem RiseN.at_ : ∀ {l : List (Nat × Nat × Nat)} {low : Nat}, RiseN low l → ∀ i, i < l.length → low ≤ (l.getD i z3).1 ∧ (l.getD i z3).1 ≤ (l.getD i z3).2.1 ∧ (l.getD i z3).2.1 ≤ 1114111 ∧ (l.getD i z3).2.2 ≤ 65535
  | [], _, _, i, h => by simp at h
  | r :: l, low, h, 0, _ => by obtain ⟨h1, h2, h3, h4, _⟩ := h; exact ⟨h1, h2, h3, h4⟩
  | r :: l, low, h, i + 1, hi => by
    obtain ⟨h1, h2, h3, h4, h5⟩ := h
    have := h5.at_ i (by simpa using hi)
    simp only [List.getD_cons_succ]
    omega
theorem RiseN.lt : ∀ {l : List (Nat × Nat × Nat)} {low : Nat}, RiseN low l → ∀ i j, i < j → j < l.length → (l.getD i z3).2.1 < (l.getD j z3).1
  | [], _, _, i, j, _, h => by simp at h
  | r :: l, low, h, 0, j + 1, _, hj => by
    have := h.2.2.2.2.at_ j (by simpa using hj)
    simp only [List.getD_cons_zero, List.getD_cons_succ]
    omega
  | r :: l, low, h, i + 1, j + 1, hij, hj => by
    have := h.2.2.2.2.lt i j (by omega) (by simpa using hj)
    simpa using this

theorem sayR_snoc (l : List (Nat × Nat × Nat)) (r : Nat × Nat × Nat) (p : Nat) : sayR (l ++ [r]) p = (sayR l p).or (if r.1 ≤ p ∧ p ≤ r.2.1 then some r.2.2 else none) := by
  unfold sayR
  rw [List.find?_append]
  cases h : l.find? fun r => decide (r.1 ≤ p ∧ p ≤ r.2.1) with
  | some x => simp
  | none =>
    by_cases hp : r.1 ≤ p ∧ p ≤ r.2.1
    · simp [List.find?, hp]
    · simp [List.find?, hp]

theorem sayR_none {l : List (Nat × Nat × Nat)} {p : Nat} (h : ∀ i, i < l.length → ¬ ((l.getD i z3).1 ≤ p ∧ p ≤ (l.getD i z3).2.1)) : sayR l p = none := by
  unfold sayR
  rw [Option.map_eq_none_iff, List.find?_eq_none]
  intro r hr
  obtain ⟨i, hi, e⟩ := List.mem_iff_getElem.1 hr
  have := h i hi
  rw [List.getD_eq_getElem?_getD, List.getElem?_eq_getElem hi] at this
  simp only [Option.getD_some, e] at this
  simpa using this

theorem sayR_append_none (l l' : List (Nat × Nat × Nat)) (p : Nat) (h : sayR l' p = none) : sayR (l ++ l') p = sayR l p := by
  unfold sayR at *
  rw [List.find?_append]
  rw [Option.map_eq_none_iff] at h
  rw [h]; simp

theorem sayR_le {l : List (Nat × Nat × Nat)} {low p n : Nat} (hr : RiseN low l) (h : sayR l p = some n) : n ≤ 65535 ∧ low ≤ p ∧ p ≤ 1114111 := by
  unfold sayR at h
  obtain ⟨r, h1, h2⟩ := Option.map_eq_some_iff.1 h
  have hm := List.mem_of_find?_eq_some h1
  have hp := List.find?_some h1
  obtain ⟨i, hi, e⟩ := List.mem_iff_getElem.1 hm
  have := hr.at_ i hi
  rw [List.getD_eq_getElem?_getD, List.getElem?_eq_getElem hi] at this
  simp only [Option.getD_some, e] at this
  simp at hp
  omega

/-- A block with rows laid over it. -/
def layB (l : List (Nat × Nat × Nat)) (f : Nat) (cur : List Nat) : List Nat := (List.range 128).map fun j => (sayR l (f + j)).getD (cur.getD j 0)
/-- The same, with the numbers of a row from the last code point laid. -/
def midB (l : List (Nat × Nat × Nat)) (f : Nat) (cur : List Nat) (a p n : Nat) : List Nat := (List.range 128).map fun j => if a ≤ f + j ∧ f + j < p then n else (sayR l (f + j)).getD (cur.getD j 0)

theorem layB_len (l : List (Nat × Nat × Nat)) (f : Nat) (cur : List Nat) : (layB l f cur).length = 128 := by simp [layB]
theorem midB_len (l : List (Nat × Nat × Nat)) (f : Nat) (cur : List Nat) (a p n : Nat) : (midB l f cur a p n).length = 128 := by simp [midB]
theorem layB_get (l : List (Nat × Nat × Nat)) (f : Nat) (cur : List Nat) (j : Nat) (h : j < 128) : (layB l f cur).getD j 0 = (sayR l (f + j)).getD (cur.getD j 0) := by
  simp [layB, List.getD_eq_getElem?_getD, h]
theorem list_ext_getD {xs ys : List Nat} (hl : xs.length = 128) (hl' : ys.length = 128) (h : ∀ j, j < 128 → xs.getD j 0 = ys.getD j 0) : xs = ys := by
  apply List.ext_getElem (by omega)
  intro i h1 h2
  have := h i (by omega)
  simpa [List.getD_eq_getElem?_getD, List.getElem?_eq_getElem h1, List.getElem?_eq_getElem h2] using this
theorem layB_nil (f : Nat) (cur : List Nat) (h : cur.length = 128) : layB [] f cur = cur :=
  list_ext_getD (layB_len _ _ _) h fun j hj => by rw [layB_get _ _ _ _ hj]; rfl
theorem layB_none (l : List (Nat × Nat × Nat)) (f : Nat) (cur : List Nat) (h : cur.length = 128) (hn : ∀ j, j < 128 → sayR l (f + j) = none) : layB l f cur = cur :=
  list_ext_getD (layB_len _ _ _) h fun j hj => by rw [layB_get _ _ _ _ hj, hn j hj]; rfl
theorem layB_append_none (l l' : List (Nat × Nat × Nat)) (f : Nat) (cur : List Nat) (hn : ∀ j, j < 128 → sayR l' (f + j) = none) : layB (l ++ l') f cur = layB l f cur :=
  list_ext_getD (layB_len _ _ _) (layB_len _ _ _) fun j hj => by rw [layB_get _ _ _ _ hj, layB_get _ _ _ _ hj, sayR_append_none _ _ _ (hn j hj)]
theorem midB_start (l : List (Nat × Nat × Nat)) (f : Nat) (cur : List Nat) (a n : Nat) : midB l f cur a a n = layB l f cur := by
  unfold midB layB
  refine List.map_congr_left fun j _ => ?_
  rw [if_neg (by omega)]
theorem midB_step (l : List (Nat × Nat × Nat)) (f : Nat) (cur : List Nat) (a p n : Nat) (h0 : a ≤ p) (h1 : f ≤ p) (h2 : p < f + 128) : (midB l f cur a p n).set (p - f) n = midB l f cur a (p + 1) n := by
  apply List.ext_getElem (by simp [midB])
  intro i h3 h4
  have hi : i < 128 := by simpa [midB] using h4
  simp only [midB, List.getElem_set, List.getElem_map, List.getElem_range]
  by_cases e : p - f = i
  · rw [if_pos e, if_pos (by omega)]
  · rw [if_neg e]
    by_cases c : a ≤ f + i ∧ f + i < p
    · rw [if_pos c, if_pos (by omega)]
    · rw [if_neg c, if_neg (by omega)]
/-- Behind a row: it is laid. -/
theorem midB_end (l : List (Nat × Nat × Nat)) (f : Nat) (cur : List Nat) (r : Nat × Nat × Nat) (p : Nat) (hp : p = min r.2.1 (f + 127) + 1) (hn : ∀ q, r.1 ≤ q → q ≤ r.2.1 → sayR l q = none) :
    midB l f cur (max r.1 f) p r.2.2 = layB (l ++ [r]) f cur := by
  unfold midB layB
  refine List.map_congr_left fun j hj => ?_
  have hj' := List.mem_range.1 hj
  rw [sayR_snoc]
  by_cases c : r.1 ≤ f + j ∧ f + j ≤ r.2.1
  · rw [if_pos (by omega), hn _ c.1 c.2]; simp [c]
  · rw [if_neg (by omega)]; simp [c]
/-- .. nothing of it, where it lies wholly ahead. -/
theorem midB_end' (l : List (Nat × Nat × Nat)) (f : Nat) (cur : List Nat) (r : Nat × Nat × Nat) (p : Nat) (hp : p = max r.1 f) (hn : r.2.1 < f ∨ f + 127 < r.1) :
    midB l f cur (max r.1 f) p r.2.2 = layB (l ++ [r]) f cur := by
  rw [hp, midB_start]
  unfold layB
  refine List.map_congr_left fun j hj => ?_
  have hj' := List.mem_range.1 hj
  rw [sayR_snoc]
  have : ¬ (r.1 ≤ f + j ∧ f + j ≤ r.2.1) := by omega
  simp [this]

theorem getD_take (l : List (Nat × Nat × Nat)) (m i : Nat) (h : i < m) : (l.take m).getD i z3 = l.getD i z3 := by
  simp [List.getD_eq_getElem?_getD, h]
theorem getD_drop (l : List (Nat × Nat × Nat)) (m i : Nat) : (l.drop m).getD i z3 = l.getD (m + i) z3 := by
  simp [List.getD_eq_getElem?_getD, List.getElem?_drop]
theorem take_snoc3 (l : List (Nat × Nat × Nat)) (k : Nat) (h : k < l.length) : l.take (k + 1) = l.take k ++ [l.getD k z3] := by
  rw [List.take_succ_eq_append_getElem h]
  simp [List.getD_eq_getElem?_getD, List.getElem?_eq_getElem h]
theorem lay_past {l : List (Nat × Nat × Nat)} {f m : Nat} {cur : List Nat} (hc : cur.length = 128) (hp : ∀ i, i < m → (l.getD i z3).2.1 < f) : layB (l.take m) f cur = cur :=
  layB_none _ _ _ hc fun j hj => sayR_none fun i hi => by
    have hi' : i < m := by rw [List.length_take] at hi; omega
    rw [getD_take _ _ _ hi']
    have := hp i hi'
    omega
theorem lay_rest {l : List (Nat × Nat × Nat)} {f k : Nat} {cur : List Nat} (hr : RiseN 0 l) (hk : k < l.length → f + 127 < (l.getD k z3).1) : layB l f cur = layB (l.take k) f cur := by
  have e : l = l.take k ++ l.drop k := (List.take_append_drop k l).symm
  conv => lhs; rw [e]
  refine layB_append_none _ _ _ _ fun j hj => sayR_none fun i hi => ?_
  rw [List.length_drop] at hi
  rw [getD_drop]
  have h0 := hk (by omega)
  rcases Nat.eq_zero_or_pos i with h1 | h1
  · subst h1; simp only [Nat.add_zero]; omega
  · have h2 := hr.lt k (k + i) (by omega) (by omega)
    have h3 := hr.at_ k (by omega)
    omega
theorem lay_row {l : List (Nat × Nat × Nat)} {f k : Nat} {cur : List Nat} (hr : RiseN 0 l) (hk : k < l.length) :
    midB (l.take k) f cur (max (l.getD k z3).1 f) (min (l.getD k z3).2.1 (f + 127) + 1) (l.getD k z3).2.2 = layB (l.take (k + 1)) f cur := by
  rw [take_snoc3 l k hk]
  refine midB_end _ _ _ _ _ rfl fun q h1 h2 => sayR_none fun i hi => ?_
  rw [List.length_take] at hi
  rw [getD_take _ _ _ (by omega)]
  have := hr.lt i k (by omega) hk
  omega

end Go.Proofs.Ytajmbafljncjcaa.Stage

/- ### Til: Plain lists: all code points in stretches of one number. No program here. -/
namespace Go.Proofs.Ytajmbafljncjcaa.Stage
set_option linter.unusedVariables false
set_option linter.unusedSimpArgs false

/-- Stretches that lie one behind the other from low up to (without) hi, each as long as its number lasts. -/
def Til (say : Nat → Nat) (hi : Nat) : Nat → List (Nat × Nat × Nat) → Prop
  | low, [] => low = hi
  | low, x :: l => x.1 = low ∧ low ≤ x.2.1 ∧ (∀ p, low ≤ p → p ≤ x.2.1 → say p = x.2.2) ∧ (∀ z ∈ l.head?, z.2.2 ≠ x.2.2) ∧ Til say hi (x.2.1 + 1) l

theorem Til.le {say : Nat → Nat} {hi : Nat} : ∀ {l : List (Nat × Nat × Nat)} {low : Nat}, Til say hi low l → low ≤ hi
  | [], low, h => Nat.le_of_eq h
  | x :: l, low, h => by have := h.2.2.2.2.le; have := h.2.1; omega
theorem Til.mem {say : Nat → Nat} {hi : Nat} : ∀ {l : List (Nat × Nat × Nat)} {low : Nat}, Til say hi low l → ∀ x ∈ l, low ≤ x.1 ∧ x.1 ≤ x.2.1 ∧ x.2.1 < hi ∧ ∀ p, x.1 ≤ p → p ≤ x.2.1 → say p = x.2.2
  | [], low, h, x, hx => by cases hx
  | y :: l, low, h, x, hx => by
    obtain ⟨h1, h2, h3, h4, h5⟩ := h
    rcases List.mem_cons.1 hx with rfl | hx
    · exact ⟨by omega, by omega, h5.le, fun p ha hb => h3 p (by omega) hb⟩
    · obtain ⟨k1, k2, k3, k4⟩ := h5.mem x hx
      exact ⟨by omega, k2, k3, k4⟩
theorem Til.uniq {say : Nat → Nat} {hi : Nat} : ∀ {l l' : List (Nat × Nat × Nat)} {low : Nat}, Til say hi low l → Til say hi low l' → l = l'
  | [], [], _, _, _ => rfl
  | [], x :: l, low, h, h' => by have := h'.2.2.2.2.le; have := h'.2.1; have : low = hi := h; omega
  | x :: l, [], low, h', h => by have := h'.2.2.2.2.le; have := h'.2.1; have : low = hi := h; omega
  | x :: l, y :: k, low, h, h' => by
    obtain ⟨a1, a2, a3, a4, a5⟩ := h
    obtain ⟨b1, b2, b3, b4, b5⟩ := h'
    have en : x.2.2 = y.2.2 := (a3 low (Nat.le_refl _) a2).symm.trans (b3 low (Nat.le_refl _) b2)
    have aux : ∀ (x y : Nat × Nat × Nat) (l : List (Nat × Nat × Nat)) (hi : Nat), x.2.2 = y.2.2 → low ≤ x.2.1 → (∀ z ∈ l.head?, z.2.2 ≠ x.2.2) → Til say hi (x.2.1 + 1) l → (∀ p, low ≤ p → p ≤ y.2.1 → say p = y.2.2) → y.2.1 + 1 ≤ hi → ¬ x.2.1 < y.2.1 := by
      intro x y l hi en hx h4 h5 h3 hle hlt
      cases l with
      | nil => have : x.2.1 + 1 = hi := h5; omega
      | cons z l =>
        have hz := h4 z rfl
        obtain ⟨c1, c2, c3, _⟩ := h5
        have e1 := c3 (x.2.1 + 1) (Nat.le_refl _) c2
        have e2 := h3 (x.2.1 + 1) (by omega) (by omega)
        exact hz (by rw [← e1, e2, en])
    have n1 := aux x y l hi en a2 a4 a5 b3 b5.le
    have n2 := aux y x k hi en.symm b2 b4 b5 a3 a5.le
    have e : x.2.1 = y.2.1 := by omega
    rw [e] at a5
    have := a5.uniq b5
    subst this
    obtain ⟨x1, x2, x3⟩ := x
    obtain ⟨y1, y2, y3⟩ := y
    simp only at *
    subst e en a1 b1
    rfl
theorem Til.length {say : Nat → Nat} {hi : Nat} : ∀ {l : List (Nat × Nat × Nat)} {low : Nat}, Til say hi low l → low + l.length ≤ hi
  | [], low, h => Nat.le_of_eq h
  | x :: l, low, h => by have := h.2.2.2.2.length; have := h.2.1; simp only [List.length_cons]; omega
theorem Til.congr {say say' : Nat → Nat} {hi : Nat} (he : ∀ p, p < hi → say p = say' p) : ∀ {l : List (Nat × Nat × Nat)} {low : Nat}, Til say hi low l → Til say' hi low l
  | [], low, h => h
  | x :: l, low, h => by
    have hh := h.2.2.2.2.le
    exact ⟨h.1, h.2.1, fun p ha hb => by rw [← he p (by omega)]; exact h.2.2.1 p ha hb, h.2.2.2.1, h.2.2.2.2.congr he⟩

/-- A stretch more, joined with the last one if it has the same number. -/
def addN (l : List (Nat × Nat × Nat)) (x : Nat × Nat × Nat) : List (Nat × Nat × Nat) :=
  match l with
  | [] => [x]
  | [y] => if y.2.2 = x.2.2 then [(y.1, x.2.1, y.2.2)] else [y, x]
  | y :: z :: t => y :: addN (z :: t) x
theorem addN_snoc (l : List (Nat × Nat × Nat)) (y x : Nat × Nat × Nat) : addN (l ++ [y]) x = l ++ (if y.2.2 = x.2.2 then [(y.1, x.2.1, y.2.2)] else [y, x]) := by
  induction l with
  | nil => simp [addN]
  | cons a l ih =>
    cases l with
    | nil => simp only [List.cons_append, List.nil_append, addN]
    | cons b l => simp only [List.cons_append, addN] at ih ⊢; rw [ih]
theorem addN_head (l : List (Nat × Nat × Nat)) (x : Nat × Nat × Nat) (h : l ≠ []) : ∃ z w, l.head? = some z ∧ (addN l x).head? = some w ∧ w.2.2 = z.2.2 := by
  match l with
  | [] => exact absurd rfl h
  | [y] => simp only [addN]; split <;> exact ⟨y, _, rfl, rfl, rfl⟩
  | y :: z :: t => exact ⟨y, y, rfl, rfl, rfl⟩
theorem addN_ne (l : List (Nat × Nat × Nat)) (x : Nat × Nat × Nat) : addN l x ≠ [] := by
  match l with
  | [] => simp [addN]
  | [y] => simp only [addN]; split <;> simp
  | y :: z :: t => simp [addN]
theorem addN_len (l : List (Nat × Nat × Nat)) (x : Nat × Nat × Nat) : (addN l x).length ≤ l.length + 1 := by
  match l with
  | [] => simp [addN]
  | [y] => simp only [addN]; split <;> simp
  | y :: z :: t => have := addN_len (z :: t) x; simp only [addN, List.length_cons] at *; omega
theorem Til.add {say : Nat → Nat} {hi : Nat} {x : Nat × Nat × Nat} (h1 : x.1 = hi) (h2 : hi ≤ x.2.1) (h3 : ∀ p, hi ≤ p → p ≤ x.2.1 → say p = x.2.2) :
    ∀ {l : List (Nat × Nat × Nat)} {low : Nat}, Til say hi low l → Til say (x.2.1 + 1) low (addN l x)
  | [], low, h => by
    obtain rfl : low = hi := h
    exact ⟨h1, h2, h3, (fun z hz => by cases hz), rfl⟩
  | [y], low, h => by
    obtain ⟨a1, a2, a3, a4, a5⟩ := h
    have a5 : y.2.1 + 1 = hi := a5
    simp only [addN]
    split
    · rename_i e
      exact ⟨a1, by simp only; omega, fun p ha hb => by
        simp only at hb
        by_cases hp : p ≤ y.2.1
        · exact a3 p ha hp
        · rw [h3 p (by omega) hb]; exact e.symm, (fun z hz => by cases hz), rfl⟩
    · rename_i e
      refine ⟨a1, a2, a3, fun z hz => ?_, by omega, by omega, fun p ha hb => h3 p (by omega) hb, (fun z hz => by cases hz), rfl⟩
      simp only [List.head?_cons, Option.mem_def, Option.some.injEq] at hz
      subst hz
      exact fun h => e h.symm
  | y :: z :: t, low, h => by
    obtain ⟨a1, a2, a3, a4, a5⟩ := h
    refine ⟨a1, a2, a3, fun w hw => ?_, Til.add h1 h2 h3 a5⟩
    obtain ⟨z', w', e1, e2, e3⟩ := addN_head (z :: t) x (by simp)
    rw [e2] at hw
    simp only [Option.mem_def, Option.some.injEq] at hw
    subst hw
    rw [e3]
    exact a4 z' e1

/-- All code points by rows, in stretches. -/
def runsN : List (Nat × Nat × Nat) → Nat → List (Nat × Nat × Nat) → List (Nat × Nat × Nat)
  | out, next, [] => if next ≤ 1114111 then addN out (next, 1114111, 0) else out
  | out, next, x :: l => if next < x.1 then runsN (addN (addN out (next, x.1 - 1, 0)) x) (x.2.1 + 1) l else runsN (addN out x) (x.2.1 + 1) l

theorem sayR_low {l : List (Nat × Nat × Nat)} {low p : Nat} (h : RiseN low l) (hp : p < low) : sayR l p = none := by
  cases hs : sayR l p with
  | none => rfl
  | some n => have := (sayR_le h hs).2.1; omega
theorem sayR_cons (x : Nat × Nat × Nat) (l : List (Nat × Nat × Nat)) (p : Nat) : sayR (x :: l) p = if x.1 ≤ p ∧ p ≤ x.2.1 then some x.2.2 else sayR l p := by
  unfold sayR
  by_cases h : x.1 ≤ p ∧ p ≤ x.2.1
  · simp [List.find?, h]
  · simp [List.find?, h]
theorem runsN_til {say : Nat → Nat} : ∀ (l out : List (Nat × Nat × Nat)) (next : Nat), RiseN next l → next ≤ 1114112 → (∀ p, next ≤ p → p ≤ 1114111 → say p = (sayR l p).getD 0) → Til say next 0 out → Til say 1114112 0 (runsN out next l)
  | [], out, next, hr, hn, hs, ht => by
    unfold runsN
    split
    · exact Til.add (x := (next, 1114111, 0)) rfl (by simpa using ‹_›) (fun p ha hb => hs p ha hb) ht
    · have e : next = 1114112 := by omega
      subst e; exact ht
  | x :: l, out, next, hr, hn, hs, ht => by
    obtain ⟨r1, r2, r3, r4, r5⟩ := hr
    have hs' : ∀ p, x.2.1 + 1 ≤ p → p ≤ 1114111 → say p = (sayR l p).getD 0 := fun p ha hb => by
      rw [hs p (by omega) hb, sayR_cons, if_neg (by omega)]
    have hx : ∀ p, x.1 ≤ p → p ≤ x.2.1 → say p = x.2.2 := fun p ha hb => by
      rw [hs p (by omega) (by omega), sayR_cons, if_pos ⟨ha, hb⟩]; rfl
    unfold runsN
    split
    · rename_i hlt
      refine runsN_til l _ _ r5 (by omega) hs' (Til.add (by omega) r2 hx ?_)
      have := Til.add (x := (next, x.1 - 1, 0)) rfl (by simp only; omega) (fun p ha hb => by
        simp only at hb
        rw [hs p ha (by omega), sayR_cons, if_neg (by omega), sayR_low r5 (by omega)]; rfl) ht
      simpa [Nat.sub_add_cancel (show 1 ≤ x.1 by omega)] using this
    · rename_i hge
      have e : next = x.1 := by omega
      subst e
      exact runsN_til l _ _ r5 (by omega) hs' (Til.add rfl r2 hx ht)
theorem runsN_ok {l : List (Nat × Nat × Nat)} (h : RiseN 0 l) : Til (fun p => (sayR l p).getD 0) 1114112 0 (runsN [] 0 l) :=
  runsN_til l [] 0 h (by omega) (fun p _ _ => rfl) rfl

end Go.Proofs.Ytajmbafljncjcaa.Stage
