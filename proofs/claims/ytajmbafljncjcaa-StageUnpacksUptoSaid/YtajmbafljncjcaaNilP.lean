/- Plain lists: the fewest rows may be rows; a packed text says all. No program here. -/
import Derived.Test.YtajmbafljncjcaaStE
import Derived.Test.YtajmbafljncjcaaPackA
import Derived.Test.YtajmbafljncjcaaSame
namespace Go.Proofs.Ytajmbafljncjcaa.Stage
open Go.RowKit Go.Proofs.YtajmbafljncjcaaW.PrintWords Go.Proofs.YtajmbafljncjcaaW.PrintLast Go.Proofs.YtajmbafljncjcaaW.PrintMore Go.Proofs.Ytajmbafljncjcaa.Mp
set_option linter.unusedVariables false
set_option linter.unusedSimpArgs false

theorem nz_append (a b : List (Nat × Nat × Nat)) : nz (a ++ b) = nz a ++ nz b := List.filter_append ..
theorem nz_addN_len (out : List (Nat × Nat × Nat)) (x : Nat × Nat × Nat) : (nz (addN out x)).length ≤ (nz out).length + if x.2.2 = 0 then 0 else 1 := by
  rcases List.eq_nil_or_concat out with rfl | ⟨l, y, rfl⟩
  · simp only [addN]
    rw [nz_cons]
    split <;> simp [nz]
  · rw [List.concat_eq_append, addN_snoc, nz_append, nz_append, List.length_append, List.length_append]
    by_cases c : y.2.2 = x.2.2
    · rw [if_pos c, nz_cons, nz_cons]
      simp only
      split <;> simp [nz]
    · rw [if_neg c, nz_cons, nz_cons, nz_cons]
      by_cases cy : y.2.2 = 0
      · rw [if_pos cy, if_pos cy]
        split <;> simp [nz] <;> omega
      · rw [if_neg cy, if_neg cy]
        split <;> simp [nz] <;> omega
theorem nz_runs_len : ∀ (l out : List (Nat × Nat × Nat)) (next : Nat), (nz (runsN out next l)).length ≤ (nz out).length + l.length
  | [], out, next => by
    unfold runsN
    split
    · have := nz_addN_len out (next, 1114111, 0); simp only [if_true] at this; simp only [List.length_nil]; omega
    · simp only [List.length_nil]; omega
  | x :: l, out, next => by
    unfold runsN
    simp only [List.length_cons]
    split
    · have h1 := nz_addN_len out (next, x.1 - 1, 0)
      have h2 := nz_addN_len (addN out (next, x.1 - 1, 0)) x
      have := nz_runs_len l (addN (addN out (next, x.1 - 1, 0)) x) (x.2.1 + 1)
      simp only [if_true] at h1
      split at h2 <;> omega
    · have h2 := nz_addN_len out x
      have := nz_runs_len l (addN out x) (x.2.1 + 1)
      split at h2 <;> omega
theorem nz_few (q : List (Nat × Nat × Nat)) : (nz (runsN [] 0 q)).length ≤ q.length := by
  have := nz_runs_len q [] 0
  simpa [nz] using this

def intR (x : Nat × Nat × Nat) : Int × Int × Int := ((x.1 : Int), (x.2.1 : Int), (x.2.2 : Int))
theorem chk_rise : ∀ (q : List (Nat × Nat × Nat)) (low : Nat) (last i : Int), last < (low : Int) → RiseN low q → chk last i (q.map intR) = (0, 0)
  | [], _, _, _, _, _ => rfl
  | x :: q, low, last, i, hl, h => by
    obtain ⟨h1, h2, h3, h4, h5⟩ := h
    rw [List.map_cons]
    unfold chk
    rw [if_neg (by simp only [intR]; omega), if_neg (by simp only [intR]; omega)]
    exact chk_rise q (x.2.1 + 1) _ _ (by simp only [intR]; omega) h5
theorem checkR_rise {q : List (Nat × Nat × Nat)} (h : RiseN 0 q) (hl : q.length ≤ 65536) : checkR (q.map intR) = (0, 0) := by
  unfold checkR
  rw [List.length_map, if_neg (by omega)]
  exact chk_rise q 0 (-1) 0 (by omega) h
theorem natR_intR (q : List (Nat × Nat × Nat)) : natR (q.map intR) = q := by
  unfold natR
  rw [List.map_map]
  conv => rhs; rw [← List.map_id q]
  exact List.map_congr_left fun x _ => by simp [intR]

/-! a packed text -/
theorem two_inj {a b : Nat} (h : twoB a = twoB b) : a = b := by
  simp only [twoB, List.cons.injEq, and_true] at h
  omega
theorem flat_two_inj : ∀ {a b : List Nat}, a.length = b.length → a.flatMap twoB = b.flatMap twoB → a = b
  | [], [], _, _ => rfl
  | x :: a, y :: b, hl, h => by
    rw [List.flatMap_cons, List.flatMap_cons] at h
    obtain ⟨h1, h2⟩ := List.append_inj h rfl
    rw [two_inj h1, flat_two_inj (by simpa using hl) h2]
  | [], _ :: _, hl, _ => by simp at hl
  | _ :: _, [], hl, _ => by simp at hl
theorem flat_blocks_inj : ∀ {a b : List (List Nat)}, a.length = b.length → (∀ x ∈ a, x.length = 128) → (∀ x ∈ b, x.length = 128) → a.flatMap (fun b => b.flatMap twoB) = b.flatMap (fun b => b.flatMap twoB) → a = b
  | [], [], _, _, _, _ => rfl
  | x :: a, y :: b, hl, ha, hb, h => by
    rw [List.flatMap_cons, List.flatMap_cons] at h
    have lx := ha x (by simp)
    have ly := hb y (by simp)
    obtain ⟨h1, h2⟩ := List.append_inj h (by rw [flat_two, flat_two, lx, ly])
    rw [flat_two_inj (by rw [lx, ly]) h1, flat_blocks_inj (by simpa using hl) (fun z hz => ha z (by simp [hz])) (fun z hz => hb z (by simp [hz])) h2]
  | [], _ :: _, hl, _, _, _ => by simp at hl
  | _ :: _, [], hl, _, _, _ => by simp at hl

theorem tabOf_ok (bs : List (List Nat)) (hl : bs.length = 8704) (hb : ∀ b ∈ bs, b.length = 128) : (tabOf bs).which.length = 8704 ∧ (∀ b ∈ (tabOf bs).unlike, b.length = 128) ∧ (tabOf bs).unlike.length ≤ 8704 ∧ (∀ n ∈ (tabOf bs).which, n ≤ 8704) ∧ ∀ b ∈ (tabOf bs).unlike, b ∈ bs := by
  have hc := canonB_ok bs
  have e1 : (tabOf bs).which = (canonB bs).1 := rfl
  have e2 : (tabOf bs).unlike = (canonB bs).2 := rfl
  rw [e1, e2]
  have h1 := hc.len
  have h2 := hc.few
  rw [hl] at h1 h2
  refine ⟨h1, fun b h => hb b ((hc.mem b).1 h), h2, fun n hn => ?_, fun b h => (hc.mem b).1 h⟩
  obtain ⟨i, hi, rfl⟩ := List.getElem_of_mem hn
  have := (hc.at_ i (by omega)).1
  rw [List.getD_eq_getElem?_getD, List.getElem?_eq_getElem hi, Option.getD_some] at this
  omega
theorem tabSay_ok (say : Nat → Nat) : (tabSay say).which.length = 8704 ∧ (∀ b ∈ (tabSay say).unlike, b.length = 128) ∧ (tabSay say).unlike.length ≤ 8704 ∧ (∀ n ∈ (tabSay say).which, n ≤ 8704) ∧ ∀ b ∈ (tabSay say).unlike, b ∈ blksOf say := by
  unfold tabSay
  exact tabOf_ok _ (blksOf_len say) (fun b hb => by obtain ⟨i, _, rfl⟩ := List.mem_map.1 hb; exact blkOf_len _ _)
theorem packT_inj' {t1 t2 : Tab} {n : Nat} (a1 : t1.which.length = n) (b1 : t2.which.length = n) (a2 : ∀ b ∈ t1.unlike, b.length = 128) (b2 : ∀ b ∈ t2.unlike, b.length = 128) (h : packT t1 = packT t2) : ∀ p, t1.say p = t2.say p := by
  unfold packT at h
  obtain ⟨h1, h2⟩ := List.append_inj h (by rw [List.length_append, List.length_append, flat_two, flat_two, twoB_len, twoB_len, a1, b1])
  obtain ⟨h3, h4⟩ := List.append_inj h1 rfl
  have e1 := two_inj h3
  have e2 := flat_two_inj (by rw [a1, b1]) h4
  have e3 := flat_blocks_inj e1 a2 b2 h2
  intro p
  unfold Tab.say
  rw [e2, e3]
theorem packT_inj {s1 s2 : Nat → Nat} (h : packT (tabSay s1) = packT (tabSay s2)) : ∀ p, p < 1114112 → s1 p = s2 p := by
  intro p hp
  have := packT_inj' (tabSay_ok s1).1 (tabSay_ok s2).1 (tabSay_ok s1).2.1 (tabSay_ok s2).2.1 h p
  rwa [tabSay_say s1 p hp, tabSay_say s2 p hp] at this
theorem two_byte {n : Nat} (hn : n ≤ 65535) : ∀ x ∈ twoB n, 0 ≤ x ∧ x ≤ 255 := by
  intro x hx
  simp only [twoB, List.mem_cons, List.not_mem_nil, or_false] at hx
  omega
theorem packT_byte {say : Nat → Nat} (hs : ∀ p, p < 1114112 → say p ≤ 65535) : ∀ x ∈ packT (tabSay say), 0 ≤ x ∧ x ≤ 255 := by
  obtain ⟨a1, a2, a3, a4, a5⟩ := tabSay_ok say
  generalize tabSay say = t at *
  intro x hx
  unfold packT at hx
  simp only [List.mem_append, List.mem_flatMap] at hx
  rcases hx with (hx | ⟨n, hn, hx⟩) | ⟨b, hb, n, hn, hx⟩
  · exact two_byte (by omega) x hx
  · exact two_byte (by have := a4 n hn; omega) x hx
  · refine two_byte ?_ x hx
    obtain ⟨i, hi, rfl⟩ := List.mem_map.1 (a5 b hb)
    obtain ⟨j, hj, rfl⟩ := List.mem_map.1 hn
    have h1 := List.mem_range.1 hi
    have h2 := List.mem_range.1 hj
    exact hs _ (by omega)
theorem str_inj {a b : List Int} (ha : ∀ x ∈ a, 0 ≤ x ∧ x ≤ 255) (hb : ∀ x ∈ b, 0 ≤ x ∧ x ≤ 255) (h : strOfNums a = strOfNums b) : a = b := by
  have h1 : a.map (fun n => UInt8.ofNat n.toNat) = b.map (fun n => UInt8.ofNat n.toNat) := by
    have := congrArg (fun s : ByteArray => s.data.toList) h
    simpa [strOfNums] using this
  clear h
  induction a generalizing b with
  | nil => cases b with
    | nil => rfl
    | cons y b => simp at h1
  | cons x a ih => cases b with
    | nil => simp at h1
    | cons y b =>
      rw [List.map_cons, List.map_cons] at h1
      injection h1 with e1 e2
      have hx := ha x (by simp)
      have hy := hb y (by simp)
      have e3 := congrArg UInt8.toNat e1
      simp only [UInt8.toNat_ofNat'] at e3
      rw [ih (fun z hz => ha z (by simp [hz])) (fun z hz => hb z (by simp [hz])) e2, show x = y by omega]
/-- Packed texts are the same just if what is said is. -/
theorem pack_iff {s1 s2 : Nat → Nat} (h1 : ∀ p, p < 1114112 → s1 p ≤ 65535) (h2 : ∀ p, p < 1114112 → s2 p ≤ 65535) : strOfNums (packT (tabSay s1)) = strOfNums (packT (tabSay s2)) ↔ ∀ p, p < 1114112 → s1 p = s2 p :=
  ⟨fun h => packT_inj (str_inj (packT_byte h1) (packT_byte h2) h), fun h => by rw [tabSay_congr h]⟩

end Go.Proofs.Ytajmbafljncjcaa.Stage
