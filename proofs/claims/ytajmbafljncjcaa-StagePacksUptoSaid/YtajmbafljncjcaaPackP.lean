/- Plain lists and small contracts for the document's Pack: where a stretch lies, blocks in order, alike. -/
import Derived.Test.YtajmbafljncjcaaStE
import Derived.Test.YtajmbafljncjcaaPack
namespace Go.Proofs.Ytajmbafljncjcaa.Stage
open Go.RowKit Go.Proofs.YtajmbafljncjcaaW.PrintWords Go.Proofs.YtajmbafljncjcaaW.PrintLast Go.Proofs.YtajmbafljncjcaaW.PrintMore Go.Proofs.Ytajmbafljncjcaa.Mp
set_option linter.unusedVariables false
set_option linter.unusedSimpArgs false

theorem Til.get {say : Nat → Nat} {hi : Nat} : ∀ {l : List (Nat × Nat × Nat)} {low : Nat}, Til say hi low l → ∀ k, k < l.length → (∀ p, (l.getD k z3).1 ≤ p → p ≤ (l.getD k z3).2.1 → say p = (l.getD k z3).2.2) ∧ (l.getD k z3).2.1 < hi ∧ (k + 1 < l.length → (l.getD (k + 1) z3).1 = (l.getD k z3).2.1 + 1) ∧ (k + 1 = l.length → (l.getD k z3).2.1 + 1 = hi)
  | [], low, h, k, hk => by simp at hk
  | x :: l, low, h, 0, hk => by
    obtain ⟨h1, h2, h3, _, h5⟩ := h
    have hle := h5.le
    refine ⟨fun p ha hb => h3 p (by simp at ha; omega) (by simpa using hb), by simp; omega, fun hl => ?_, fun hl => ?_⟩
    · cases l with
      | nil => simp at hl
      | cons y l => simpa using h5.1
    · cases l with
      | nil => simpa [Til] using h5
      | cons y l => simp at hl
  | x :: l, low, h, k + 1, hk => by
    obtain ⟨h1, h2, h3, _, h5⟩ := h
    have := Til.get h5 k (by simpa using hk)
    simpa using this

/-- A stretch that does not begin behind a code point. -/
def InvR (R : List (Nat × Nat × Nat)) (k p : Nat) : Prop := k < R.length ∧ (R.getD k z3).1 ≤ p
theorem InvR.go {say : Nat → Nat} {R : List (Nat × Nat × Nat)} (ht : Til say 1114112 0 R) {k p : Nat} (h : InvR R k p) (hp : p < 1114112) (hlt : (R.getD k z3).2.1 < p) : InvR R (k + 1) p := by
  obtain ⟨_, h2, h3, h4⟩ := ht.get k h.1
  have hk := h.1
  by_cases e : k + 1 = R.length
  · have := h4 e; omega
  · have hl : k + 1 < R.length := by omega
    exact ⟨hl, by rw [h3 hl]; omega⟩
theorem InvR.say {say : Nat → Nat} {R : List (Nat × Nat × Nat)} (ht : Til say 1114112 0 R) {k p : Nat} (h : InvR R k p) (hle : p ≤ (R.getD k z3).2.1) : say p = (R.getD k z3).2.2 := (ht.get k h.1).1 p h.2 hle

/-- The numbers of blocks, and the unlike ones, of the first blocks. -/
def czB (say : Nat → Nat) (b : Nat) : List Nat × List (List Nat) := canonB ((blksOf say).take b)
theorem take_blks (say : Nat → Nat) (b : Nat) (hb : b < 8704) : (blksOf say).take (b + 1) = (blksOf say).take b ++ [blkOf say b] := by
  have hl := blksOf_len say
  have hg := blksOf_get say b hb
  generalize blksOf say = bs at hl hg
  rw [List.take_succ_eq_append_getElem (show b < bs.length by omega)]
  rw [List.getD_eq_getElem?_getD, List.getElem?_eq_getElem (show b < bs.length by omega), Option.getD_some] at hg
  rw [hg]
theorem czB_succ (say : Nat → Nat) (b : Nat) (hb : b < 8704) : czB say (b + 1) = stepB (czB say b) (blkOf say b) := by
  unfold czB
  rw [take_blks say b hb, canonB_snoc]
theorem czB_all (say : Nat → Nat) : (czB say 8704).1 = (tabSay say).which ∧ (czB say 8704).2 = (tabSay say).unlike := by
  have hl := blksOf_len say
  unfold czB tabSay
  generalize blksOf say = bs at hl
  rw [List.take_of_length_le (by omega)]
  exact ⟨rfl, rfl⟩
theorem czB_ok (say : Nat → Nat) (b : Nat) (hb : b ≤ 8704) : (czB say b).1.length = b ∧ (czB say b).2.length ≤ b ∧ (czB say b).2.Nodup ∧ (∀ x ∈ (czB say b).2, x.length = 128) ∧ (∀ i, i < b → (czB say b).1.getD i 0 < (czB say b).2.length ∧ (czB say b).2.getD ((czB say b).1.getD i 0) [] = blkOf say i) ∧ (∀ x ∈ (czB say b).2, ∃ i, i < b ∧ x = blkOf say i) := by
  unfold czB
  have hl := blksOf_len say
  have hg := fun i hi => blksOf_get say i hi
  generalize blksOf say = bs at hl hg
  have hlen : (bs.take b).length = b := by rw [List.length_take]; omega
  have hat : ∀ i, i < b → (bs.take b).getD i [] = blkOf say i := fun i hi => by
    rw [← hg i (by omega)]
    simp only [List.getD_eq_getElem?_getD, List.getElem?_take]
    rw [if_pos hi]
  have hc := canonB_ok (bs.take b)
  have hmem : ∀ x ∈ (canonB (bs.take b)).2, ∃ i, i < b ∧ x = blkOf say i := fun x hx => by
    obtain ⟨i, hi, he⟩ := List.getElem_of_mem ((hc.mem x).1 hx)
    refine ⟨i, by omega, ?_⟩
    have := hat i (by omega)
    rw [List.getD_eq_getElem?_getD, List.getElem?_eq_getElem hi, Option.getD_some, he] at this
    exact this
  refine ⟨by rw [hc.len, hlen], by have := hc.few; omega, hc.nodup, fun x hx => ?_, fun i hi => ?_, hmem⟩
  · obtain ⟨i, _, rfl⟩ := hmem x hx
    exact blkOf_len _ _
  · have := hc.at_ i (by omega)
    rw [hat i hi] at this
    exact this
/-- A block that is as the one ahead. -/
theorem czB_same (say : Nat → Nat) (b : Nat) (hb0 : 0 < b) (hb : b < 8704) (he : blkOf say b = blkOf say (b - 1)) : czB say (b + 1) = ((czB say b).1 ++ [(czB say b).1.getD (b - 1) 0], (czB say b).2) := by
  obtain ⟨h1, h2, h3, h4, h5, _⟩ := czB_ok say b (by omega)
  rw [czB_succ say b hb]
  obtain ⟨k1, k2⟩ := h5 (b - 1) (by omega)
  have hidx : idxB (blkOf say b) (czB say b).2 = (czB say b).1.getD (b - 1) 0 := idxB_at h3 k1 (by rw [k2, he])
  unfold stepB
  rw [hidx, if_pos k1]
theorem blkOf_const {say : Nat → Nat} {b n : Nat} (h : ∀ j, j < 128 → say (128 * b + j) = n) : blkOf say b = List.replicate 128 n := by
  apply List.ext_getElem (by rw [blkOf_len, List.length_replicate])
  intro j h1 h2
  rw [blkOf_len] at h1
  have := blkOf_get say b j h1
  rw [List.getD_eq_getElem?_getD, List.getElem?_eq_getElem (by rw [blkOf_len]; exact h1), Option.getD_some] at this
  rw [this, h j h1, List.getElem_replicate]
theorem idxB_first {bk : List Nat} : ∀ {l : List (List Nat)} {j : Nat}, j < l.length → l.getD j [] = bk → idxB bk l ≤ j
  | [], j, h, _ => by simp at h
  | x :: l, 0, _, h => by
    have : x = bk := by simpa using h
    unfold idxB
    rw [if_pos this.symm]
    exact Nat.le_refl _
  | x :: l, j + 1, hj, h => by
    have := idxB_first (l := l) (j := j) (by simpa using hj) (by simpa using h)
    unfold idxB
    split
    · omega
    · omega

/-- Whole numbers as they lie. -/
def zl (l : List Nat) : List Int := l.map fun (n : Nat) => (n : Int)
theorem zl_len (l : List Nat) : (zl l).length = l.length := List.length_map ..
theorem zl_append (a b : List Nat) : zl (a ++ b) = zl a ++ zl b := List.map_append ..
theorem zl_get (l : List Nat) (i : Nat) (h : i < l.length) : rd (zl l) (i : Int) = (l.getD i 0 : Nat) := by
  simp [rd, zl, List.getD_eq_getElem?_getD, List.getElem?_map, List.getElem?_eq_getElem h]

def AlikePost (w : World) (r : Bool) (e : Ending) (w' : World) : Prop := e = .returned (.bool r) ∧ ∃ n, w' = w.drewN n
set_option maxRecDepth 100000 in
set_option maxHeartbeats 800000 in
theorem alike_calls (w : World) {A B : Option Addr} {c d : Nat} (a b : List Nat) (hab : a.length = b.length) (hl : a.length ≤ 128) (hA : Kd.C (Kd.int .i64) w A a.length (zl a)) (hB : Kd.C (Kd.int .i64) w B b.length (zl b)) :
    Calls Try.prog 63 #[.slice A a.length c, .slice B b.length d] w (AlikePost w (decide (a = b))) := by
  have HA := Aside0.mk hA
  have HB := Aside0.mk hB
  clear hA hB
  go_enter Try.func63, Try.ntmps63
  go_wp2
  go_loopg [8] (a.length + 1) (fun k v8 wr => ∃ i : Nat, i ≤ a.length ∧ a.length + 1 - i ≤ k ∧ v8 = .int .i64 (i : Int) ∧ Aside0 (∀ j, j < i → a.getD j 0 = b.getD j 0) ∧ ∃ m, wr = w.drewN m)
  case atStart => exact ⟨0, by omega, by omega, rfl, ⟨fun j hj => absurd hj (Nat.not_lt_zero j)⟩, 0, rfl⟩
  case round =>
    obtain ⟨i, hi, hk, rfl, hS, m, rfl⟩ := hrel
    by_cases hlt : i < a.length
    · have hlt' : (i : Int) < (a.length : Int) := by omega
      have hlt2 : (i : Int) < (b.length : Int) := by omega
      obtain ⟨ad, rfl, k0⟩ := Kd.at_int HA.out (i : Int) (by omega) (by omega)
      obtain ⟨ad2, rfl, k1⟩ := Kd.at_int HB.out (i : Int) (by omega) (by omega)
      rw [zl_get _ _ hlt, Int.toNat_natCast] at k0
      rw [zl_get _ _ (by omega), Int.toNat_natCast] at k1
      by_cases he : a.getD i 0 = b.getD i 0
      · have HS := Aside0.mk (show ∀ j, j < i + 1 → a.getD j 0 = b.getD j 0 from fun j hj => by
          by_cases h : j < i
          · exact hS.out j h
          · rw [show j = i by omega]; exact he)
        rw [← he] at k1
        generalize a.getD i 0 = x at k0 k1
        have hne : ((x : Int) != (x : Int)) = false := by simp
        clear he hS
        go_wp2
        go_quiet (fail)
        go_wp2
        go_roundg (gk - 1)
        case measure => omega
        case rel => exact ⟨i + 1, by omega, by omega, by go_num, HS, _, rfl⟩
      · have HF := Aside0.mk (show decide (a = b) = false from decide_eq_false (fun e => he (by rw [e])))
        generalize a.getD i 0 = x at k0 he
        generalize b.getD i 0 = y at k1 he
        have hne : ((x : Int) != (y : Int)) = true := by rw [bne_iff_ne]; omega
        clear hS
        go_wp2
        go_quiet (fail)
        go_wp2
        go_ret
        exact ⟨by rw [HF.out]; rfl, m + nq, by rw [World.drewN_drewN]⟩
    · have hlt' : ¬ (i : Int) < (a.length : Int) := by omega
      have HF := Aside0.mk (show decide (a = b) = true from decide_eq_true (by
        apply List.ext_getElem hab
        intro j h1 h2
        have := hS.out j (by omega)
        rwa [List.getD_eq_getElem?_getD, List.getElem?_eq_getElem h1, Option.getD_some, List.getD_eq_getElem?_getD, List.getElem?_eq_getElem h2, Option.getD_some] at this))
      clear hS
      go_wp2
      go_ret
      exact ⟨by rw [HF.out]; rfl, _, rfl⟩

end Go.Proofs.Ytajmbafljncjcaa.Stage
