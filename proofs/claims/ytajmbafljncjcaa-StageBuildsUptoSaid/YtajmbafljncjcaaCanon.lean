/- Plain lists: unlike blocks, numbered in the order in which they come first. No program here. -/
import Derived.Test.YtajmbafljncjcaaTab
namespace Go.Proofs.Ytajmbafljncjcaa.Stage
open Go.RowKit Go.Proofs.YtajmbafljncjcaaW.PrintWords
set_option linter.unusedVariables false
set_option linter.unusedSimpArgs false

/-- Where a block stands among the unlike ones; their number, if it is none of them. -/
def idxB (b : List Nat) : List (List Nat) → Nat
  | [] => 0
  | x :: l => if b = x then 0 else idxB b l + 1

theorem idxB_le (b : List Nat) : ∀ l, idxB b l ≤ l.length
  | [] => Nat.le_refl _
  | x :: l => by
    have := idxB_le b l
    unfold idxB
    split <;> simp <;> omega

theorem idxB_get (b : List Nat) : ∀ l, idxB b l < l.length → l.getD (idxB b l) [] = b
  | [], h => by simp [idxB] at h
  | x :: l, h => by
    unfold idxB at h ⊢
    by_cases e : b = x
    · simp [e]
    · rw [if_neg e] at h ⊢
      have := idxB_get b l (by simpa using h)
      simpa using this

theorem idxB_mem (b : List Nat) : ∀ l, idxB b l < l.length ↔ b ∈ l
  | [] => by simp [idxB]
  | x :: l => by
    have := idxB_mem b l
    unfold idxB
    by_cases e : b = x
    · simp [e]
    · rw [if_neg e]
      simp only [List.length_cons, Nat.add_lt_add_iff_right, List.mem_cons, e, false_or]
      exact this

theorem idxB_at {b : List Nat} : ∀ {l : List (List Nat)} {k : Nat}, l.Nodup → k < l.length → l.getD k [] = b → idxB b l = k
  | [], k, _, h, _ => by simp at h
  | x :: l, 0, _, _, h => by
    have : x = b := by simpa using h
    simp [idxB, this]
  | x :: l, k + 1, hn, hk, h => by
    have hn' := List.nodup_cons.1 hn
    have hk' : k < l.length := by simpa using hk
    have h' : l.getD k [] = b := by simpa using h
    have hb : b ∈ l := by rw [← h', List.getD_eq_getElem?_getD, List.getElem?_eq_getElem hk']; exact List.getElem_mem hk'
    have hne : ¬ b = x := fun e => hn'.1 (e ▸ hb)
    unfold idxB
    rw [if_neg hne, idxB_at hn'.2 hk' h']

theorem idxB_append (b : List Nat) (l l' : List (List Nat)) (h : b ∈ l) : idxB b (l ++ l') = idxB b l := by
  induction l with
  | nil => simp at h
  | cons x l ih =>
    simp only [List.cons_append, idxB]
    by_cases e : b = x
    · simp [e]
    · rw [if_neg e, if_neg e, ih (by simpa [e] using h)]

/-- Behind one block more. -/
def stepB (st : List Nat × List (List Nat)) (b : List Nat) : List Nat × List (List Nat) :=
  (st.1 ++ [idxB b st.2], if idxB b st.2 < st.2.length then st.2 else st.2 ++ [b])

/-- The numbers of blocks, the unlike ones. -/
def canonB (bs : List (List Nat)) : List Nat × List (List Nat) := bs.foldl stepB ([], [])

theorem canonB_snoc (bs : List (List Nat)) (b : List Nat) : canonB (bs ++ [b]) = stepB (canonB bs) b := by simp [canonB, List.foldl_append]

structure CanonOk (bs : List (List Nat)) (st : List Nat × List (List Nat)) : Prop where
  len : st.1.length = bs.length
  few : st.2.length ≤ bs.length
  nodup : st.2.Nodup
  mem : ∀ b, b ∈ st.2 ↔ b ∈ bs
  at_ : ∀ i, i < bs.length → st.1.getD i 0 < st.2.length ∧ st.2.getD (st.1.getD i 0) [] = bs.getD i []

theorem getD_snoc_lt {α : Type} (l : List α) (x d : α) (i : Nat) (h : i < l.length) : (l ++ [x]).getD i d = l.getD i d := by
  simp [List.getD_eq_getElem?_getD, List.getElem?_append_left h]
theorem getD_snoc_at {α : Type} (l : List α) (x d : α) : (l ++ [x]).getD l.length d = x := by
  simp [List.getD_eq_getElem?_getD]

theorem stepB_ok {bs : List (List Nat)} {st : List Nat × List (List Nat)} (h : CanonOk bs st) (b : List Nat) : CanonOk (bs ++ [b]) (stepB st b) := by
  have hm := idxB_mem b st.2
  by_cases hb : idxB b st.2 < st.2.length
  · have hin := hm.1 hb
    have e : stepB st b = (st.1 ++ [idxB b st.2], st.2) := by simp [stepB, hb]
    rw [e]
    refine ⟨by simp [h.len], by have := h.few; simp; omega, h.nodup, fun c => ?_, fun i hi => ?_⟩
    · rw [h.mem c]
      have hbb := (h.mem b).1 hin
      constructor
      · intro hc; simp [hc]
      · intro hc
        rcases List.mem_append.1 hc with hc | hc
        · exact hc
        · rw [List.mem_singleton.1 hc]; exact hbb
    · by_cases hi' : i < bs.length
      · have := h.at_ i hi'
        simp only
        rw [getD_snoc_lt _ _ _ _ (by rw [h.len]; exact hi'), getD_snoc_lt _ _ _ _ hi']
        exact this
      · have hie : i = bs.length := by simp at hi; omega
        subst hie
        simp only
        rw [← h.len, getD_snoc_at, h.len, getD_snoc_at]
        exact ⟨hb, idxB_get b st.2 hb⟩
  · have hle := idxB_le b st.2
    have he : idxB b st.2 = st.2.length := by omega
    have hnin : b ∉ st.2 := fun hh => hb (hm.2 hh)
    have e : stepB st b = (st.1 ++ [st.2.length], st.2 ++ [b]) := by simp [stepB, he]
    rw [e]
    refine ⟨by simp [h.len], by have := h.few; simp; omega, ?_, fun c => ?_, fun i hi => ?_⟩
    · rw [List.nodup_append]
      exact ⟨h.nodup, by simp, fun a ha c hc => by rw [List.mem_singleton.1 hc]; exact fun e => hnin (e ▸ ha)⟩
    · simp [h.mem c]
    · by_cases hi' : i < bs.length
      · have := h.at_ i hi'
        simp only
        rw [getD_snoc_lt _ _ _ _ (by rw [h.len]; exact hi'), getD_snoc_lt _ _ _ _ this.1, getD_snoc_lt _ _ _ _ hi']
        exact ⟨by rw [List.length_append]; exact Nat.lt_of_lt_of_le this.1 (Nat.le_add_right _ _), this.2⟩
      · have hie : i = bs.length := by simp at hi; omega
        subst hie
        simp only
        rw [← h.len, getD_snoc_at, getD_snoc_at, h.len, getD_snoc_at]
        exact ⟨by simp, rfl⟩

theorem canonB_ok (bs : List (List Nat)) : CanonOk bs (canonB bs) := by
  have key : ∀ n, n ≤ bs.length → CanonOk (bs.take n) (canonB (bs.take n)) := by
    intro n
    induction n with
    | zero => intro _; exact ⟨rfl, Nat.le_refl _, List.nodup_nil, fun b => by simp [canonB], fun i hi => by simp at hi⟩
    | succ n ih =>
      intro hn
      rw [List.take_succ_eq_append_getElem (show n < bs.length by omega), canonB_snoc]
      exact stepB_ok (ih (by omega)) _
  have := key bs.length (Nat.le_refl _)
  rwa [List.take_length] at this

theorem stepB_ext (wh : List Nat) (ul : List (List Nat)) (b : List Nat) (n : Nat) (ul' : List (List Nat)) (h : stepB (wh, ul) b = (wh ++ [n], ul')) (i : Nat) (hi : i < ul.length) : i < ul'.length ∧ ul'.getD i [] = ul.getD i [] := by
  simp only [stepB, Prod.mk.injEq] at h
  obtain ⟨_, rfl⟩ := h
  split
  · exact ⟨hi, rfl⟩
  · exact ⟨by simp; omega, getD_snoc_lt _ _ _ _ hi⟩
/-- One number alone? -/
def flatB (b : List Nat) : Bool := (List.range 128).all fun j => b.getD j 0 == b.getD 0 0

/-- The table of blocks. -/
def tabOf (bs : List (List Nat)) : Tab := ⟨(canonB bs).1, (canonB bs).2, (canonB bs).2.map flatB⟩

/-- A block of what is said. -/
def blkOf (say : Nat → Nat) (i : Nat) : List Nat := (List.range 128).map fun j => say (128 * i + j)
theorem blkOf_len (say : Nat → Nat) (i : Nat) : (blkOf say i).length = 128 := by simp [blkOf]
theorem blkOf_get (say : Nat → Nat) (i j : Nat) (h : j < 128) : (blkOf say i).getD j 0 = say (128 * i + j) := by
  simp [blkOf, List.getD_eq_getElem?_getD, h]
/-- The blocks of what is said. -/
def blksOf (say : Nat → Nat) : List (List Nat) := (List.range 8704).map (blkOf say)
theorem blksOf_len (say : Nat → Nat) : (blksOf say).length = 8704 := by simp [blksOf]
theorem blksOf_get (say : Nat → Nat) (i : Nat) (h : i < 8704) : (blksOf say).getD i [] = blkOf say i := by
  simp [blksOf, List.getD_eq_getElem?_getD, h]

theorem tabOf_say (bs : List (List Nat)) (p : Nat) : (tabOf bs).say p = ((canonB bs).2.getD ((canonB bs).1.getD (p / 128) 0) []).getD (p % 128) 0 := rfl
/-- The table of what is said. -/
def tabSay (say : Nat → Nat) : Tab := tabOf (blksOf say)

theorem tabSay_say (say : Nat → Nat) (p : Nat) (h : p < 1114112) : (tabSay say).say p = say p := by
  have hl := blksOf_len say
  have hg := blksOf_get say (p / 128) (by omega)
  unfold tabSay
  generalize blksOf say = bs at hl hg
  have hk := (canonB_ok bs).at_ (p / 128) (by omega)
  rw [tabOf_say, hk.2, hg, blkOf_get _ _ _ (by omega)]
  congr 1
  omega

theorem tabSay_blk (say : Nat → Nat) (i : Nat) (h : i < 8704) : (tabSay say).unlike.getD ((tabSay say).which.getD i 0) [] = blkOf say i := by
  have hl := blksOf_len say
  have hg := blksOf_get say i h
  unfold tabSay
  generalize blksOf say = bs at hl hg
  have hk := (canonB_ok bs).at_ i (by omega)
  rw [← hg]
  exact hk.2
theorem TabIn.bound {w : World} {b g c g' c' : Nat} {say : Nat → Nat} (h : TabIn w b g c g' c' (tabSay say)) (p : Nat) (hp : p < 1114112) : say p ≤ 65535 := by
  rw [← tabSay_say say p hp]
  exact h.num _ _ (h.idx _ (by omega)) (by omega)
theorem blksOf_congr {say say' : Nat → Nat} (h : ∀ p, p < 1114112 → say p = say' p) : blksOf say = blksOf say' := by
  unfold blksOf
  refine List.map_congr_left fun i hi => ?_
  unfold blkOf
  refine List.map_congr_left fun j hj => ?_
  have h1 := List.mem_range.1 hi
  have h2 := List.mem_range.1 hj
  exact h _ (by omega)
theorem tabSay_congr {say say' : Nat → Nat} (h : ∀ p, p < 1114112 → say p = say' p) : tabSay say = tabSay say' := by
  unfold tabSay
  rw [blksOf_congr h]

/-- A table in memory that says this: b its block; it is as it is built. -/
def TabSays (w : World) (b : Nat) (say : Nat → Nat) : Prop := ∃ g c g' c', TabIn w b g c g' c' (tabSay say)

/-- A table's handle, nil too. -/
def Han (w : World) (v : Option Addr) (say : Nat → Nat) : Prop :=
  (v = none ∧ ∀ p, p < 1114112 → say p = 0) ∨ ∃ b, v = some ⟨b, 0, none⟩ ∧ TabSays w b say

theorem TabSays.below {w w1 : World} {b : Nat} {say : Nat → Nat} (h : TabSays w b say) (hb : Below w.heap.size w w1) : TabSays w1 b say := by
  obtain ⟨g, c, g', c', h⟩ := h
  exact ⟨g, c, g', c', h.below hb⟩
theorem Han.below {w w1 : World} {v : Option Addr} {say : Nat → Nat} (h : Han w v say) (hb : Below w.heap.size w w1) : Han w1 v say := by
  rcases h with h | ⟨b, e, h⟩
  · exact .inl h
  · exact .inr ⟨b, e, h.below hb⟩

end Go.Proofs.Ytajmbafljncjcaa.Stage
