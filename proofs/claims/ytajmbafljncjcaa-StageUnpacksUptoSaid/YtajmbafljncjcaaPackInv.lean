/- Plain lists: what is packed is a packed text, and says what it was packed of. No program here. -/
import Derived.Test.YtajmbafljncjcaaUnpackA
namespace Go.Proofs.Ytajmbafljncjcaa.Stage
open Go.RowKit Go.Proofs.YtajmbafljncjcaaW.PrintWords Go.Proofs.YtajmbafljncjcaaW.PrintLast Go.Proofs.YtajmbafljncjcaaW.PrintMore Go.Proofs.Ytajmbafljncjcaa.Mp
set_option linter.unusedVariables false
set_option linter.unusedSimpArgs false

theorem flat2_get : ∀ (l : List Nat) (i : Nat), i < l.length → (l.flatMap twoB).getD (2 * i) 0 = ((l.getD i 0 / 256 : Nat) : Int) ∧ (l.flatMap twoB).getD (2 * i + 1) 0 = ((l.getD i 0 % 256 : Nat) : Int)
  | [], i, h => by simp at h
  | x :: l, 0, h => by simp [twoB]
  | x :: l, i + 1, h => by
    have := flat2_get l i (by simpa using h)
    have e : (x :: l).flatMap twoB = ((x / 256 : Nat) : Int) :: ((x % 256 : Nat) : Int) :: l.flatMap twoB := rfl
    rw [e, show 2 * (i + 1) = 2 * i + 1 + 1 by omega]
    simp only [List.getD_cons_succ]
    exact this
theorem str_get (l : List Int) (i : Nat) (h : i < l.length) : (strOfNums l).data.toList.getD i 0 = UInt8.ofNat (l.getD i 0).toNat := by
  simp [strOfNums, List.getD_eq_getElem?_getD, List.getElem?_map, List.getElem?_eq_getElem h]
theorem wd_nums (l : List Nat) (hl : ∀ x ∈ l, x ≤ 65535) (i : Nat) (hi : i < l.length) : wd (strOfNums (l.flatMap twoB)) i = l.getD i 0 := by
  have hlen := flat_two l
  obtain ⟨h1, h2⟩ := flat2_get l i hi
  have hb : l.getD i 0 ≤ 65535 := hl _ (by rw [List.getD_eq_getElem?_getD, List.getElem?_eq_getElem hi]; exact List.getElem_mem hi)
  unfold wd
  rw [str_get _ _ (by omega), str_get _ _ (by omega), h1, h2]
  generalize l.getD i 0 = x at hb
  rw [Int.toNat_natCast, Int.toNat_natCast, UInt8.toNat_ofNat', UInt8.toNat_ofNat']
  omega
/-- The numbers of a packed text. -/
def numsT (t : Tab) : List Nat := t.unlike.length :: (t.which ++ t.unlike.flatten)
theorem packT_nums (t : Tab) : packT t = (numsT t).flatMap twoB := by
  unfold packT numsT
  rw [List.flatMap_cons, List.flatMap_append, List.append_assoc]
  congr 2
  generalize t.unlike = u
  induction u with
  | nil => rfl
  | cons x u ih => rw [List.flatMap_cons, List.flatten_cons, List.flatMap_append, ih]
theorem flatten_get : ∀ (u : List (List Nat)), (∀ b ∈ u, b.length = 128) → ∀ k j, k < u.length → j < 128 → u.flatten.getD (128 * k + j) 0 = (u.getD k []).getD j 0
  | [], _, k, j, hk, _ => by simp at hk
  | x :: u, h, 0, j, hk, hj => by
    have hx := h x (by simp)
    rw [List.flatten_cons]
    simp only [List.getD_eq_getElem?_getD, Nat.mul_zero, Nat.zero_add, List.getElem?_cons_zero, Option.getD_some]
    rw [List.getElem?_append_left (by omega)]
  | x :: u, h, k + 1, j, hk, hj => by
    have hx := h x (by simp)
    have ih := flatten_get u (fun b hb => h b (by simp [hb])) k j (by simpa using hk) hj
    rw [List.flatten_cons, List.getD_cons_succ, ← ih]
    simp only [List.getD_eq_getElem?_getD]
    rw [List.getElem?_append_right (by omega), show 128 * (k + 1) + j - x.length = 128 * k + j by omega]
theorem flatten_len : ∀ (u : List (List Nat)), (∀ b ∈ u, b.length = 128) → u.flatten.length = 128 * u.length
  | [], _ => rfl
  | x :: u, h => by
    rw [List.flatten_cons, List.length_append, flatten_len u (fun b hb => h b (by simp [hb])), h x (by simp), List.length_cons]
    omega
/-- What is packed reads so. -/
theorem packed_reads {t : Tab} {L : Nat} (hw : t.which.length = 8704) (hu : ∀ b ∈ t.unlike, b.length = 128) (hL : t.unlike.length = L) (hL2 : L ≤ 8704) (hi : ∀ i, i < 8704 → t.which.getD i 0 < L) (hn : ∀ b ∈ t.unlike, ∀ x ∈ b, x ≤ 65535) (hw2 : ∀ x ∈ t.which, x ≤ 8704) :
    (strOfNums (packT t)).size = 17410 + 256 * L ∧ (∀ i, i < 8704 → wd (strOfNums (packT t)) (1 + i) = t.which.getD i 0) ∧ (∀ k j, k < L → j < 128 → wd (strOfNums (packT t)) (8705 + 128 * k + j) = (t.unlike.getD k []).getD j 0) := by
  have hfl := flatten_len t.unlike hu
  have hlen : (numsT t).length = 8705 + 128 * L := by unfold numsT; rw [List.length_cons, List.length_append, hw, hfl, hL]; omega
  have hb : ∀ x ∈ numsT t, x ≤ 65535 := fun x hx => by
    unfold numsT at hx
    rcases List.mem_cons.1 hx with rfl | hx
    · omega
    · rcases List.mem_append.1 hx with hx | hx
      · have := hw2 x hx; omega
      · obtain ⟨b, hb, hxb⟩ := List.mem_flatten.1 hx
        exact hn b hb x hxb
  rw [packT_nums]
  refine ⟨?_, fun i h => ?_, fun k j hk hj => ?_⟩
  · have : (strOfNums ((numsT t).flatMap twoB)).size = ((numsT t).flatMap twoB).length := by simp [strOfNums, ByteArray.size]
    rw [this, flat_two, hlen]
    omega
  · rw [wd_nums _ hb _ (by omega)]
    unfold numsT
    rw [show 1 + i = i + 1 by omega, List.getD_cons_succ]
    simp only [List.getD_eq_getElem?_getD]
    rw [List.getElem?_append_left (by omega)]
  · rw [wd_nums _ hb _ (by omega)]
    unfold numsT
    rw [show 8705 + 128 * k + j = (8704 + (128 * k + j)) + 1 by omega, List.getD_cons_succ, ← flatten_get t.unlike hu k j (by omega) hj]
    simp only [List.getD_eq_getElem?_getD]
    rw [List.getElem?_append_right (by omega), show 8704 + (128 * k + j) - t.which.length = 128 * k + j by omega]

theorem tabOf_packs (bs : List (List Nat)) (hl : bs.length = 8704) (hb : ∀ b ∈ bs, b.length = 128) (hn : ∀ b ∈ bs, ∀ x ∈ b, x ≤ 65535) :
    ∃ L, L ≤ 8704 ∧ (strOfNums (packT (tabOf bs))).size = 17410 + 256 * L ∧ (∀ i, i < 8704 → wd (strOfNums (packT (tabOf bs))) (1 + i) < L) ∧ ∀ i j, i < 8704 → j < 128 → wd (strOfNums (packT (tabOf bs))) (8705 + 128 * wd (strOfNums (packT (tabOf bs))) (1 + i) + j) = (bs.getD i []).getD j 0 := by
  obtain ⟨a1, a2, a3, a4, a5⟩ := tabOf_ok bs hl hb
  have hc := canonB_ok bs
  have hat : ∀ i, i < 8704 → (tabOf bs).which.getD i 0 < (tabOf bs).unlike.length ∧ (tabOf bs).unlike.getD ((tabOf bs).which.getD i 0) [] = bs.getD i [] := fun i hi => hc.at_ i (by omega)
  obtain ⟨h1, h2, h3⟩ := packed_reads (t := tabOf bs) a1 a2 rfl a3 (fun i hi => (hat i hi).1) (fun b hb => hn b (a5 b hb)) a4
  refine ⟨(tabOf bs).unlike.length, a3, h1, fun i hi => by rw [h2 i hi]; exact (hat i hi).1, fun i j hi hj => ?_⟩
  rw [h2 i hi, h3 _ j (hat i hi).1 hj, (hat i hi).2]
/-- A table's packed text is one, and says what the table does. -/
theorem packed_of {say : Nat → Nat} (hs : ∀ p, p < 1114112 → say p ≤ 65535) : Packed (strOfNums (packT (tabSay say))) ∧ ∀ p, p < 1114112 → wdSay (strOfNums (packT (tabSay say))) p = say p := by
  have hl := blksOf_len say
  have hg := fun i hi => blksOf_get say i hi
  have hmem : ∀ b ∈ blksOf say, ∃ i, i < 8704 ∧ b = blkOf say i := fun b hb => by
    obtain ⟨i, hi, rfl⟩ := List.mem_map.1 hb
    exact ⟨i, List.mem_range.1 hi, rfl⟩
  have key : ∃ L, L ≤ 8704 ∧ (strOfNums (packT (tabSay say))).size = 17410 + 256 * L ∧ (∀ i, i < 8704 → wd (strOfNums (packT (tabSay say))) (1 + i) < L) ∧ ∀ i j, i < 8704 → j < 128 → wd (strOfNums (packT (tabSay say))) (8705 + 128 * wd (strOfNums (packT (tabSay say))) (1 + i) + j) = ((blksOf say).getD i []).getD j 0 := by
    have ht : tabSay say = tabOf (blksOf say) := by unfold tabSay; rfl
    rw [ht]
    clear hg ht
    generalize blksOf say = bs at *
    exact tabOf_packs bs hl (fun b hb => by obtain ⟨i, _, rfl⟩ := hmem b hb; exact blkOf_len _ _) (fun b hb x hx => by
      obtain ⟨i, hi, rfl⟩ := hmem b hb
      obtain ⟨j, hj, rfl⟩ := List.mem_map.1 hx
      have := List.mem_range.1 hj
      exact hs _ (by omega))
  obtain ⟨L, hL, h1, h2, h3⟩ := key
  have hsay : ∀ p, p < 1114112 → wdSay (strOfNums (packT (tabSay say))) p = say p := fun p hp => by
    unfold wdSay
    rw [h3 (p / 128) (p % 128) (by omega) (by omega), hg (p / 128) (by omega), blkOf_get _ _ _ (by omega), Nat.div_add_mod]
  refine ⟨⟨⟨L, h1, h2⟩, ?_⟩, hsay⟩
  exact congrArg (fun t => strOfNums (packT t)) (tabSay_congr hsay)

end Go.Proofs.Ytajmbafljncjcaa.Stage
