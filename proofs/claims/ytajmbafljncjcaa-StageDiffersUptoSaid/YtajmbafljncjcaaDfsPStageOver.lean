/- StageDiffers, in plain: numbers and pairs by the program and by the document. No program here. The document's Most: its walk, by hand. -/
import Derived.Test.YtajmbafljncjcaaNumCStageOver
import Derived.Test.YtajmbafljncjcaaNumsDStageOver
import Derived.Test.YtajmbafljncjcaaCntQStageOver
import Derived.Test.YtajmbafljncjcaaRefBStageOver
/-! ### DfsP: StageDiffers, in plain: numbers and pairs by the program and by the document. No program here. -/
namespace Go.Proofs.Ytajmbafljncjcaa.PStageOver
open Go.RowKit Go.Proofs.Ytajmbafljncjcaa.Stage Go.Proofs.Ytajmbafljncjcaa.Mp
set_option linter.unusedVariables false
set_option linter.unusedSimpArgs false

theorem mem_put (a v b : Nat) : ∀ l : List (Nat × Nat), b ∈ (put a v l).map (·.1) ↔ b = a ∨ b ∈ l.map (·.1)
  | [] => by simp [put, place]
  | q :: l => by
    by_cases h : a = q.1
    · rw [(put_eq h).1]
      simp [h]
    · rw [(put_ne h).1, List.map_cons, List.mem_cons, mem_put a v b l, List.map_cons, List.mem_cons]
      constructor
      · rintro (h | h | h) <;> simp [h]
      · rintro (h | h | h) <;> simp [h]
theorem nodup_put (a v : Nat) : ∀ l : List (Nat × Nat), (l.map (·.1)).Nodup → ((put a v l).map (·.1)).Nodup
  | [], _ => by simp [put, place]
  | q :: l, hn => by
    rw [List.map_cons, List.nodup_cons] at hn
    by_cases h : a = q.1
    · rw [(put_eq h).1, List.map_cons, List.nodup_cons, h]
      exact hn
    · rw [(put_ne h).1, List.map_cons, List.nodup_cons, mem_put]
      exact ⟨fun hh => hh.elim (fun e => h e.symm) hn.1, nodup_put a v l hn.2⟩
theorem keys_mem (b : Nat) : ∀ (out : List (Nat × Nat × Nat)) (l : List (Nat × Nat)), b ∈ (out.foldl (fun l x => addK x.2.2 (x.2.1 - x.1 + 1) l) l).map (·.1) ↔ b ∈ l.map (·.1) ∨ ∃ x ∈ out, x.2.2 = b
  | [], l => by simp
  | x :: out, l => by
    rw [List.foldl_cons, keys_mem b out]
    unfold addK
    rw [mem_put]
    constructor
    · rintro ((h | h) | ⟨y, hy, h⟩)
      · exact .inr ⟨x, List.mem_cons_self, h.symm⟩
      · exact .inl h
      · exact .inr ⟨y, List.mem_cons_of_mem _ hy, h⟩
    · rintro (h | ⟨y, hy, h⟩)
      · exact .inl (.inr h)
      · rcases List.mem_cons.1 hy with rfl | hy
        · exact .inl (.inl h.symm)
        · exact .inr ⟨y, hy, h⟩
theorem keys_nodup : ∀ (out : List (Nat × Nat × Nat)) (l : List (Nat × Nat)), (l.map (·.1)).Nodup → ((out.foldl (fun l x => addK x.2.2 (x.2.1 - x.1 + 1) l) l).map (·.1)).Nodup
  | [], l, h => h
  | x :: out, l, h => by
    rw [List.foldl_cons]
    exact keys_nodup out _ (nodup_put _ _ _ h)
theorem cnt_mem (b : Nat) (rs : List (Nat × Nat × Nat)) : b ∈ (cntL rs).map (·.1) ↔ ∃ x ∈ rs, x.2.2 = b := by
  unfold cntL
  rw [keys_mem]
  simp
theorem cnt_nodup (rs : List (Nat × Nat × Nat)) : ((cntL rs).map (·.1)).Nodup := keys_nodup rs [] (by simp)
theorem insN_mem (x b : Nat) : ∀ l : List Nat, b ∈ insN x l ↔ b = x ∨ b ∈ l
  | [] => by simp [insN]
  | y :: l => by
    simp only [insN]
    split
    · rw [List.mem_cons, insN_mem x b l, List.mem_cons]
      constructor
      · rintro (h | h | h) <;> simp [h]
      · rintro (h | h | h) <;> simp [h]
    · split
      · rename_i h
        simp [h]
      · simp
theorem insN_rise (x : Nat) : ∀ l : List Nat, l.Pairwise (· < ·) → (insN x l).Pairwise (· < ·)
  | [], _ => by simp [insN]
  | y :: l, h => by
    rw [List.pairwise_cons] at h
    simp only [insN]
    split
    · rename_i hy
      rw [List.pairwise_cons]
      exact ⟨fun b hb => by
        rcases (insN_mem x b l).1 hb with rfl | hb
        · exact hy
        · exact h.1 b hb, insN_rise x l h.2⟩
    · split
      · exact List.pairwise_cons.2 h
      · rename_i h1 h2
        rw [List.pairwise_cons]
        refine ⟨fun b hb => ?_, List.pairwise_cons.2 h⟩
        rcases List.mem_cons.1 hb with rfl | hb
        · omega
        · have := h.1 b hb; omega
theorem numsT_mem' (b : Nat) : ∀ (R : List (Nat × Nat × Nat)) (o : List Nat), b ∈ R.foldl (fun o x => insN x.2.2 o) o ↔ b ∈ o ∨ ∃ x ∈ R, x.2.2 = b
  | [], o => by simp
  | x :: R, o => by
    rw [List.foldl_cons, numsT_mem' b R, insN_mem]
    constructor
    · rintro ((h | h) | ⟨y, hy, h⟩)
      · exact .inr ⟨x, List.mem_cons_self, h.symm⟩
      · exact .inl h
      · exact .inr ⟨y, List.mem_cons_of_mem _ hy, h⟩
    · rintro (h | ⟨y, hy, h⟩)
      · exact .inl (.inr h)
      · rcases List.mem_cons.1 hy with rfl | hy
        · exact .inl (.inl h.symm)
        · exact .inr ⟨y, hy, h⟩
theorem numsT_mem (b : Nat) (R : List (Nat × Nat × Nat)) : b ∈ numsT R ↔ ∃ x ∈ R, x.2.2 = b := by
  unfold numsT
  rw [numsT_mem']
  simp
theorem numsT_rise' : ∀ (R : List (Nat × Nat × Nat)) (o : List Nat), o.Pairwise (· < ·) → (R.foldl (fun o x => insN x.2.2 o) o).Pairwise (· < ·)
  | [], o, h => h
  | x :: R, o, h => by
    rw [List.foldl_cons]
    exact numsT_rise' R _ (insN_rise _ _ h)
theorem numsT_rise (R : List (Nat × Nat × Nat)) : (numsT R).Pairwise (· < ·) := numsT_rise' R [] List.Pairwise.nil
/-- What rises by a key, with the same members, is the same. -/
theorem rise_un {α : Type} (k : α → Nat) : ∀ {l m : List α}, l.Pairwise (fun x y => k x < k y) → m.Pairwise (fun x y => k x < k y) → (∀ b, b ∈ l ↔ b ∈ m) → l = m
  | [], [], _, _, _ => rfl
  | [], y :: m, _, _, h => absurd ((h y).2 List.mem_cons_self) (by simp)
  | x :: l, [], _, _, h => absurd ((h x).1 List.mem_cons_self) (by simp)
  | x :: l, y :: m, h1, h2, h => by
    rw [List.pairwise_cons] at h1 h2
    have e : x = y := by
      rcases List.mem_cons.1 ((h x).1 List.mem_cons_self) with hx | hx
      · exact hx
      · rcases List.mem_cons.1 ((h y).2 List.mem_cons_self) with hy | hy
        · exact hy.symm
        · have a := h2.1 x hx
          have b := h1.1 y hy
          omega
    subst e
    congr 1
    refine rise_un k h1.2 h2.2 (fun b => ?_)
    have hb := h b
    rw [List.mem_cons, List.mem_cons] at hb
    constructor
    · intro hm
      rcases hb.1 (.inr hm) with rfl | h'
      · have := h1.1 b hm; omega
      · exact h'
    · intro hm
      rcases hb.2 (.inr hm) with rfl | h'
      · have := h2.1 b hm; omega
      · exact h'
theorem strict_of {l : List Nat} (h : l.Pairwise (fun x y => x ≤ y)) (hn : l.Nodup) : l.Pairwise (fun x y => x < y) := by
  have := List.Pairwise.and h hn
  exact this.imp (fun h => by omega)
theorem nums_same {rs : List (Nat × Nat × Nat)} {ns : List Nat} (hp : ns.Perm ((cntL rs).map (·.1))) (hs : ns.Pairwise (fun x y => x ≤ y)) : ns = numsT rs :=
  rise_un id (strict_of hs (hp.nodup_iff.2 (cnt_nodup rs))) (numsT_rise rs) (fun b => by rw [hp.mem_iff, cnt_mem, numsT_mem])
theorem manyN_K (n : Nat) : ∀ R : List (Nat × Nat × Nat), manyN (n : Int) R = manyK n R
  | [] => rfl
  | x :: R => by
    simp only [manyN, manyK, manyN_K n R]
    congr 1
    by_cases h : x.2.2 = n
    · rw [if_pos h, if_pos (by omega)]
    · rw [if_neg h, if_neg (by omega)]

/-! Pairs. -/
def rowE2 (c : Nat → Nat → Nat) (n : Nat) : List Nat → List (Nat × Nat × Nat)
  | [] => []
  | m :: l => (if c n m = 0 then [] else [(n, m, c n m)]) ++ rowE2 c n l
def allE (c : Nat → Nat → Nat) (B : List Nat) : List Nat → List (Nat × Nat × Nat)
  | [] => []
  | n :: l => rowE2 c n B ++ allE c B l
theorem rowE2_append (c : Nat → Nat → Nat) (n : Nat) (k : List Nat) : ∀ l : List Nat, rowE2 c n (l ++ k) = rowE2 c n l ++ rowE2 c n k
  | [] => rfl
  | m :: l => by simp only [List.cons_append, rowE2, rowE2_append c n k l, List.append_assoc]
theorem allE_append (c : Nat → Nat → Nat) (B k : List Nat) : ∀ l : List Nat, allE c B (l ++ k) = allE c B l ++ allE c B k
  | [] => rfl
  | m :: l => by simp only [List.cons_append, allE, allE_append c B k l, List.append_assoc]
theorem mem_rowE2 (c : Nat → Nat → Nat) (n : Nat) (z : Nat × Nat × Nat) : ∀ B : List Nat, z ∈ rowE2 c n B ↔ z.1 = n ∧ z.2.1 ∈ B ∧ z.2.2 = c n z.2.1 ∧ z.2.2 ≠ 0
  | [] => by simp [rowE2]
  | m :: B => by
    simp only [rowE2]
    rw [List.mem_append, mem_rowE2 c n z B, List.mem_cons]
    constructor
    · rintro (h | ⟨h1, h2, h3, h4⟩)
      · split at h
        · cases h
        · rw [List.mem_singleton] at h
          subst h
          exact ⟨rfl, .inl rfl, rfl, by assumption⟩
      · exact ⟨h1, .inr h2, h3, h4⟩
    · rintro ⟨h1, h2 | h2, h3, h4⟩
      · left
        rw [h2] at h3
        rw [if_neg (by rw [← h3]; exact h4), List.mem_singleton]
        obtain ⟨z0, z1, z2⟩ := z
        simp only at h1 h2 h3
        rw [h1, h2, h3]
      · exact .inr ⟨h1, h2, h3, h4⟩
theorem mem_allE (c : Nat → Nat → Nat) (B : List Nat) (z : Nat × Nat × Nat) : ∀ A : List Nat, z ∈ allE c B A ↔ z.1 ∈ A ∧ z.2.1 ∈ B ∧ z.2.2 = c z.1 z.2.1 ∧ z.2.2 ≠ 0
  | [] => by simp [allE]
  | n :: A => by
    simp only [allE]
    rw [List.mem_append, mem_rowE2, mem_allE c B z A, List.mem_cons]
    constructor
    · rintro (⟨h1, h2, h3, h4⟩ | ⟨h1, h2, h3, h4⟩)
      · exact ⟨.inl h1, h2, by rw [h1]; exact h3, h4⟩
      · exact ⟨.inr h1, h2, h3, h4⟩
    · rintro ⟨h1 | h1, h2, h3, h4⟩
      · exact .inl ⟨h1, h2, by rw [← h1]; exact h3, h4⟩
      · exact .inr ⟨h1, h2, h3, h4⟩
def keyE (z : Nat × Nat × Nat) : Nat := z.1 * 65536 + z.2.1
theorem rowE2_rise (c : Nat → Nat → Nat) (n : Nat) : ∀ B : List Nat, B.Pairwise (· < ·) → (rowE2 c n B).Pairwise (fun x y => keyE x < keyE y)
  | [], _ => List.Pairwise.nil
  | m :: B, h => by
    rw [List.pairwise_cons] at h
    simp only [rowE2]
    split
    · exact rowE2_rise c n B h.2
    · rw [List.singleton_append, List.pairwise_cons]
      refine ⟨fun z hz => ?_, rowE2_rise c n B h.2⟩
      obtain ⟨z1, z2, _⟩ := (mem_rowE2 c n z B).1 hz
      have := h.1 _ z2
      unfold keyE
      rw [z1]
      show n * 65536 + m < _
      omega
theorem allE_rise (c : Nat → Nat → Nat) {B : List Nat} (hB : B.Pairwise (· < ·)) (hb : ∀ m ∈ B, m < 65536) : ∀ A : List Nat, A.Pairwise (· < ·) → (allE c B A).Pairwise (fun x y => keyE x < keyE y)
  | [], _ => List.Pairwise.nil
  | n :: A, h => by
    rw [List.pairwise_cons] at h
    simp only [allE]
    rw [List.pairwise_append]
    refine ⟨rowE2_rise c n B hB, allE_rise c hB hb A h.2, fun x hx y hy => ?_⟩
    obtain ⟨x1, x2, _⟩ := (mem_rowE2 c n x B).1 hx
    obtain ⟨y1, y2, _⟩ := (mem_allE c B y A).1 hy
    have := h.1 _ y1
    have := hb _ x2
    have := hb _ y2
    unfold keyE
    rw [x1]
    omega
theorem cntQ_pos {P : Nat → Bool} {p : Nat} (hP : P p = true) : ∀ (n low : Nat), low ≤ p → p < low + n → cntQ P low n ≠ 0
  | 0, low, h1, h2 => by omega
  | n + 1, low, h1, h2 => by
    simp only [cntQ]
    by_cases e : low = p
    · rw [e, if_pos hP]; omega
    · have := cntQ_pos hP n (low + 1) (by omega) (by omega)
      omega
theorem cntQ_has {P : Nat → Bool} : ∀ (n low : Nat), cntQ P low n ≠ 0 → ∃ p, low ≤ p ∧ p < low + n ∧ P p = true
  | 0, low, h => absurd rfl h
  | n + 1, low, h => by
    simp only [cntQ] at h
    by_cases e : P low = true
    · exact ⟨low, Nat.le_refl _, by omega, e⟩
    · rw [if_neg e, Nat.zero_add] at h
      obtain ⟨p, h1, h2, h3⟩ := cntQ_has n (low + 1) h
      exact ⟨p, by omega, by omega, h3⟩
theorem til_has {say : Nat → Nat} {hi : Nat} : ∀ {l : List (Nat × Nat × Nat)} {low : Nat}, Til say hi low l → ∀ p, low ≤ p → p < hi → ∃ x ∈ l, x.2.2 = say p
  | [], low, h, p, h1, h2 => by
    have : low = hi := h
    omega
  | x :: l, low, h, p, h1, h2 => by
    obtain ⟨t1, t2, t3, t4, t5⟩ := h
    by_cases e : p ≤ x.2.1
    · exact ⟨x, List.mem_cons_self, (t3 p h1 e).symm⟩
    · obtain ⟨y, hy, h3⟩ := til_has t5 p (by omega) h2
      exact ⟨y, List.mem_cons_of_mem _ hy, h3⟩
theorem sumK_none (a : Nat) : ∀ l : List (Nat × Nat), a ∉ l.map (·.1) → sumK (fun k => decide (k = a)) l = 0
  | [], _ => rfl
  | p :: l, h => by
    rw [List.map_cons, List.mem_cons, not_or] at h
    simp only [sumK]
    rw [sumK_none a l h.2, if_neg (by simpa using fun e => h.1 e.symm)]
theorem sumK_one {z : Nat × Nat} : ∀ {l : List (Nat × Nat)}, (l.map (·.1)).Nodup → z ∈ l → sumK (fun k => decide (k = z.1)) l = z.2
  | [], _, h => by cases h
  | p :: l, hn, h => by
    rw [List.map_cons, List.nodup_cons] at hn
    simp only [sumK]
    rcases List.mem_cons.1 h with rfl | h
    · rw [sumK_none z.1 l hn.1, if_pos (by simp)]
      rfl
    · have hne : ¬ p.1 = z.1 := fun e => hn.1 (by rw [e]; exact List.mem_map_of_mem h)
      rw [sumK_one hn.2 h, if_neg (by simpa using hne), Nat.zero_add]
/-- How many code points have this pair. -/
def bothN2 (sa sb : Nat → Nat) (n m : Nat) : Nat := cntQ (fun p => decide (sa p = n) && decide (sb p = m)) 0 1114112
theorem pairs_same {sa sb : Nat → Nat} (b1 : ∀ p, p < 1114112 → sa p ≤ 65535) (b2 : ∀ p, p < 1114112 → sb p ≤ 65535) {rs ra rb : List (Nat × Nat × Nat)} (h : Til (pairSay sa sb) 1114112 0 rs) (ha : Til sa 1114112 0 ra) (hb : Til sb 1114112 0 rb)
    {l0 : List S30} (hp : l0.Perm ((cntL rs).map rowP)) (hs : SortedT l0) : l0 = (allE (bothN2 sa sb) (numsT rb) (numsT ra)).map toS := by
  have hra : ∀ m ∈ numsT ra, m < 65536 := fun m hm => by
    obtain ⟨x, hx, rfl⟩ := (numsT_mem m ra).1 hm
    obtain ⟨t1, t2, t3, t4⟩ := ha.mem x hx
    rw [← t4 x.1 (Nat.le_refl _) t2]
    have := b1 x.1 (by omega)
    omega
  have hrb : ∀ m ∈ numsT rb, m < 65536 := fun m hm => by
    obtain ⟨x, hx, rfl⟩ := (numsT_mem m rb).1 hm
    obtain ⟨t1, t2, t3, t4⟩ := hb.mem x hx
    rw [← t4 x.1 (Nat.le_refl _) t2]
    have := b2 x.1 (by omega)
    omega
  obtain ⟨q, hq, rfl⟩ := rows_un hp
  have hval : ∀ z ∈ cntL rs, z.2 = cntQ (fun p => decide (pairSay sa sb p = z.1)) 0 1114112 := fun z hz => by
    rw [← sumK_one (cnt_nodup rs) hz, sumK_cntL, lenQ_til _ h]
  have hboth : ∀ n m, n < 65536 → m < 65536 → cntQ (fun p => decide (pairSay sa sb p = n * 65536 + m)) 0 1114112 = bothN2 sa sb n m := fun n m hn hm =>
    cntQ_congr _ _ (fun p hp1 hp2 => by
      have u1 := b1 p (by omega)
      have u2 := b2 p (by omega)
      by_cases e : sa p = n ∧ sb p = m
      · obtain ⟨e1, e2⟩ := e
        simp [pairSay, e1, e2]
      · have : ¬ pairSay sa sb p = n * 65536 + m := fun h => e (by unfold pairSay at h; omega)
        simp only [this, decide_false]
        symm
        simpa using e)
  have hq2 : q.map rowP = (q.map fun p => (p.1 / 65536, p.1 % 65536, p.2)).map toS := by
    rw [List.map_map]
    exact List.map_congr_left (fun p _ => rfl)
  have hnd : (q.map (·.1)).Nodup := (hq.map _).nodup_iff.2 (cnt_nodup rs)
  rw [hq2]
  congr 1
  refine rise_un keyE ?_ (allE_rise _ (numsT_rise rb) hrb _ (numsT_rise ra)) (fun z => ?_)
  · rw [List.pairwise_map]
    unfold SortedT at hs
    rw [List.pairwise_map] at hs
    have hn2 : q.Pairwise (fun x y => x.1 ≠ y.1) := List.pairwise_map.1 hnd
    refine (hs.and hn2).imp (fun {x y} hxy => ?_)
    obtain ⟨h1, h2⟩ := hxy
    have e0 : (rowP x).f0 = ((x.1 / 65536 : Nat) : Int) := rfl
    have e1 : (rowP x).f1 = ((x.1 % 65536 : Nat) : Int) := rfl
    have e2 : (rowP y).f0 = ((y.1 / 65536 : Nat) : Int) := rfl
    have e3 : (rowP y).f1 = ((y.1 % 65536 : Nat) : Int) := rfl
    rw [e0, e1, e2, e3] at h1
    show x.1 / 65536 * 65536 + x.1 % 65536 < y.1 / 65536 * 65536 + y.1 % 65536
    omega
  · rw [mem_allE, List.mem_map]
    constructor
    · rintro ⟨p, hp, rfl⟩
      have hp' := hq.mem_iff.1 hp
      have hv := hval p hp'
      obtain ⟨x, hx, hxe⟩ := (cnt_mem p.1 rs).1 (List.mem_map_of_mem hp')
      obtain ⟨t1, t2, t3, t4⟩ := h.mem x hx
      have e := t4 x.1 (Nat.le_refl _) t2
      rw [hxe] at e
      have u1 := b1 x.1 (by omega)
      have u2 := b2 x.1 (by omega)
      have en : sa x.1 = p.1 / 65536 := by unfold pairSay at e; omega
      have em : sb x.1 = p.1 % 65536 := by unfold pairSay at e; omega
      obtain ⟨y, hy, hye⟩ := til_has ha x.1 (by omega) (by omega)
      obtain ⟨z, hz, hze⟩ := til_has hb x.1 (by omega) (by omega)
      refine ⟨(numsT_mem _ ra).2 ⟨y, hy, hye.trans en⟩, (numsT_mem _ rb).2 ⟨z, hz, hze.trans em⟩, ?_, ?_⟩
      · show p.2 = _
        rw [hv, ← hboth (p.1 / 65536) (p.1 % 65536) (by omega) (by omega), show p.1 / 65536 * 65536 + p.1 % 65536 = p.1 by omega]
      · show p.2 ≠ 0
        rw [hv]
        exact cntQ_pos (p := x.1) (by simpa using e) _ _ (by omega) (by omega)
    · rintro ⟨h1, h2, h3, h4⟩
      obtain ⟨n, m, c⟩ := z
      simp only at h1 h2 h3 h4
      have hn := hra n h1
      have hm := hrb m h2
      have h5 := h4
      rw [h3, ← hboth n m hn hm] at h5
      obtain ⟨p, p1, p2, p3⟩ := cntQ_has _ _ h5
      have p3 := of_decide_eq_true p3
      obtain ⟨x, hx, hxe⟩ := til_has h p (by omega) (by omega)
      obtain ⟨w, hw, hwe⟩ := List.mem_map.1 ((cnt_mem (n * 65536 + m) rs).2 ⟨x, hx, hxe.trans p3⟩)
      refine ⟨w, hq.mem_iff.2 hw, ?_⟩
      have hv := hval w hw
      rw [hwe, hboth n m hn hm, ← h3] at hv
      rw [hv, hwe]
      show ((n * 65536 + m) / 65536, (n * 65536 + m) % 65536, c) = (n, m, c)
      rw [show (n * 65536 + m) / 65536 = n by omega, show (n * 65536 + m) % 65536 = m by omega]
/-- One step of the pairs' list. -/
theorem allE_take (c : Nat → Nat → Nat) (B A : List Nat) (i : Nat) (h : i < A.length) : allE c B (A.take (i + 1)) = allE c B (A.take i) ++ rowE2 c (A.getD i 0) B := by
  have e : A.take (i + 1) = A.take i ++ [A.getD i 0] := by
    simp only [List.getD_eq_getElem?_getD, List.getElem?_eq_getElem h, Option.getD_some]
    exact List.take_succ_eq_append_getElem h
  rw [e, allE_append]
  simp [allE]
theorem rowE2_take (c : Nat → Nat → Nat) (n : Nat) (B : List Nat) (j : Nat) (h : j < B.length) : rowE2 c n (B.take (j + 1)) = rowE2 c n (B.take j) ++ (if c n (B.getD j 0) = 0 then [] else [(n, B.getD j 0, c n (B.getD j 0))]) := by
  have e : B.take (j + 1) = B.take j ++ [B.getD j 0] := by
    simp only [List.getD_eq_getElem?_getD, List.getElem?_eq_getElem h, Option.getD_some]
    exact List.take_succ_eq_append_getElem h
  rw [e, rowE2_append]
  simp [rowE2]
/-- Where the law stands in the list of pairs. -/
theorem pairs_mid (c : Nat → Nat → Nat) (B A : List Nat) (i j : Nat) (h : i < A.length) : ∃ tl, allE c B A = allE c B (A.take i) ++ rowE2 c (A.getD i 0) (B.take j) ++ tl := by
  refine ⟨rowE2 c (A.getD i 0) (B.drop j) ++ allE c B (A.drop (i + 1)), ?_⟩
  have h1 := allE_append c B (A.drop (i + 1)) (A.take (i + 1))
  rw [List.take_append_drop, allE_take c B A i h] at h1
  have h2 := rowE2_append c (A.getD i 0) (B.drop j) (B.take j)
  rw [List.take_append_drop] at h2
  rw [h1, h2]
  simp only [List.append_assoc]

end Go.Proofs.Ytajmbafljncjcaa.PStageOver

/-! ### MostD: The document's Most: its walk, by hand. -/
namespace Go.Proofs.Ytajmbafljncjcaa.PStageOver
open Go.RowKit Go.Proofs.YtajmbafljncjcaaW.PrintWords Go.Proofs.YtajmbafljncjcaaW.PrintLast Go.Proofs.YtajmbafljncjcaaW.PrintMore Go.Proofs.Ytajmbafljncjcaa.Stage Go.Proofs.Ytajmbafljncjcaa.Mp
set_option linter.unusedVariables false
set_option linter.unusedSimpArgs false

/-- The answer of Most by the document. -/
def MostDPost (w : World) (R : List (Nat × Nat × Nat)) (e : Ending) (w' : World) : Prop := Below w.heap.size w w' ∧ e = .returned (.tuple #[.int .i64 ((mostF (fun n => manyK n R) (numsT R)).1 : Nat), .int .i64 ((mostF (fun n => manyK n R) (numsT R)).2 : Nat)])
set_option maxRecDepth 100000 in
set_option maxHeartbeats 1600000 in
theorem mostd_calls (w : World) {q : List (Nat × Nat × Nat)} (hq : RiseN 0 q) (hql : q.length ≤ 1114112) {A : Option Addr} {c : Nat}
    (hC : Kd.C k30 w A q.length (q.map toS)) (hc : q.length ≤ c) :
    Calls Try.prog 48 #[.slice A q.length c] w (MostDPost w (runsN [] 0 q)) := by
  have htil := runsN_ok hq
  have hlen := numsT_len (runsN [] 0 q)
  have hRal := htil.length
  have HBD := Aside0.mk (fun n => (show manyK n (runsN [] 0 q) ≤ 1114112 by have := manyK_le n htil; omega))
  have HNU := Aside0.mk (numsd_calls w hq hql hC hc)
  have HCO := Aside0.mk (fun (W : World) (hW : Below w.heap.size w W) (n : Nat) => (show Calls Try.prog 56 #[.slice A q.length c, .int .i64 (n : Int)] W (fun e w' => e = .returned (.int .i64 ((manyK n (runsN [] 0 q) : Nat) : Int)) ∧ Below W.heap.size W w') from by
    have h := posternref08_Count.calls (2 * q.length + 3) A c (q.map toS) (n : Int) _ W (by rw [List.length_map]; exact Kd.C_below hC hW) (by rw [List.length_map]; exact hc) (count_f hql hq (n : Int))
    rw [List.length_map, manyN_K] at h
    exact h))
  clear htil hC hq
  generalize runsN [] 0 q = R at *
  go_enter Try.func48, Try.ntmps48
  go_wp2_with fail
  refine HNU.out.mono ?_
  rintro e w2 ⟨hb2, A2, c2, rfl, hc2, hC2⟩
  have HB2 := Aside0.mk hb2
  have HC2 := Aside0.mk hC2
  clear hb2 hC2 HNU
  obtain ⟨ns, hns⟩ : ∃ ns, ns = numsT R := ⟨_, rfl⟩
  have HNS := Aside0.mk hns
  rw [← hns] at hlen hc2 HC2 ⊢
  clear hns
  go_wp2
  go_loopg [4, 5, 12] (ns.length + 1) (fun k v4 v5 v12 wr => ∃ i : Nat, i ≤ ns.length ∧ ns.length + 1 - i ≤ k ∧ v12 = .int .i64 (i : Int) ∧ v4 = .int .i64 ((mostF (fun n => manyK n R) (ns.take i)).1 : Nat) ∧ v5 = .int .i64 ((mostF (fun n => manyK n R) (ns.take i)).2 : Nat) ∧ Aside0 (Below w2.heap.size w2 wr))
  case atStart => exact ⟨0, by omega, by omega, rfl, rfl, rfl, ⟨Below.refl _ _⟩⟩
  case round =>
    obtain ⟨i, hi, hk, rfl, rfl, rfl, hB⟩ := hrel
    by_cases hlt : i < ns.length
    · have hlt' : (i : Int) < (ns.length : Int) := by omega
      obtain ⟨ad, rfl, k0⟩ := at_I (Kd.C_below HC2.out hB.out) i (by rw [List.length_map]; exact hlt)
      rw [show (ns.map (fun n : Nat => (n : Int))).getD i 0 = ((ns.getD i 0 : Nat) : Int) by simp [List.getD_eq_getElem?_getD, List.getElem?_map, List.getElem?_eq_getElem hlt]] at k0
      have hst := mostF_take (fun n => manyK n R) ns i hlt
      generalize ns.getD i 0 = n at k0 hst
      have HCN := Aside0.mk (HCO.out wr (HB2.out.trans (hB.out.mono HB2.out.size)) n)
      have hbd := HBD.out n
      simp only [mostS] at hst
      have HST := Aside0.mk hst
      have HB7 := hB
      clear hst hB
      generalize manyK n R = vn at *
      generalize mostF (fun n => manyK n R) (ns.take i) = bm at *
      obtain ⟨bb, mm⟩ := bm
      simp only at HST
      go_wp2_with fail
      refine HCN.out.mono ?_
      rintro e w8 ⟨rfl, hb8⟩
      have HB8 := Aside0.mk (HB7.out.trans (hb8.mono HB7.out.size))
      clear hb8 HCN
      by_cases hgt : mm < vn
      · have hgt' : (mm : Int) < (vn : Int) := by omega
        rw [if_pos hgt] at HST
        go_wp2
        go_roundg (gk - 1)
        case measure => omega
        case rel => exact ⟨i + 1, by omega, by omega, by go_num, by rw [HST.out], by rw [HST.out], HB8⟩
      · have hgt' : ¬ (mm : Int) < (vn : Int) := by omega
        rw [if_neg hgt] at HST
        go_wp2
        go_roundg (gk - 1)
        case measure => omega
        case rel => exact ⟨i + 1, by omega, by omega, by go_num, by rw [HST.out], by rw [HST.out], HB8⟩
    · have hlt' : ¬ (i : Int) < (ns.length : Int) := by omega
      obtain rfl : i = ns.length := by omega
      rw [List.take_of_length_le (Nat.le_refl _)]
      have HF := Aside0.mk (show MostDPost w R (.returned (.tuple #[.int .i64 ((mostF (fun n => manyK n R) ns).1 : Nat), .int .i64 ((mostF (fun n => manyK n R) ns).2 : Nat)])) wr from ⟨HB2.out.trans (hB.out.mono HB2.out.size), by rw [HNS.out]⟩)
      clear hB
      generalize mostF (fun n => manyK n R) ns = bm at *
      go_wp2
      go_ret2
      exact HF.out

end Go.Proofs.Ytajmbafljncjcaa.PStageOver
