/- DERIVED: THE SHELF's CONTRACTS AT THIS DUMP, IN PLAIN WORDS (tools/lay-plain.mjs out of 'YtkpdccegamcppaaXSortL.lean', which tools/lay-shelf.mjs wrote): THE SAME DECLARATIONS UNDER THE SAME NAMES: 'import', 'namespace', 'open', 'def', 'theorem' AND NOTHING ELSE: no command of the shelf's: FOR A HAND-IN. Each laying: the table of numbers ('.._ren') and one theorem, a field a fact of the dump's own or the kernel's comparison; each contract: ONE APPLICATION. slices.SortFunc under span.joined's closure, over a row of spans of one's own; slices.Clone of spans. -/
import Derived.Shelf.SlSortCmp.NoneTotal
import Derived.Shelf.SlGeneric
import Derived.Ground.SlsfProg
import Derived.Test.YtkpdccegamcppaaProg
import Derived.Test.YtkpdccegamcppaaPSpanx25
import Derived.Test.YtkpdccegamcppaaXKit
import Derived.WalkSpells
import Derived.Lib.SliceRun
/-! ### XSortP: DERIVED: THE SHELF's CONTRACTS AT THIS DUMP, IN PLAIN WORDS (tools/lay-plain.mjs out of 'YtkpdccegamcppaaXSortL.lean', which tools/lay-shelf.mjs wrote): THE SAME DECLARATIONS UNDER THE SAME NAMES: 'import', 'namespace', 'open', 'def', 'theorem' AND NOTHING ELSE: no command of the shelf's: FOR A HAND-IN. Each laying: the table of numbers ('.._ren') and one theorem, a field a fact of the dump's own or the kernel's comparison; each contract: ONE APPLICATION. -/
namespace Go.Proofs
open Go.Shelf
def Try.sortSp_ren : Go.Shelf.Ren := ⟨fun | 6 => 59 | 15 => 68 | 14 => 67 | 28 => 81 | 29 => 82 | 20 => 73 | 21 => 74 | 22 => 75 | 23 => 76 | 24 => 77 | 25 => 78 | 26 => 79 | 27 => 80 | 46 => 85 | 47 => 86 | 48 => 87 | 49 => 88 | 50 => 89 | 57 => 91 | n => n, fun | 22 => 22 | 24 => 50 | 25 => 91 | 3 => 3 | 39 => 98 | 0 => 0 | 53 => 110 | 55 => 112 | 4 => 4 | 46 => 104 | 45 => 103 | 50 => 44 | 5 => 5 | 9 => 9 | 66 => 115 | 70 => 119 | 76 => 121 | 77 => 122 | n => n, fun | n => n⟩
theorem Try.sortSp : Go.Proofs.SlLaysF0.n6 Try.prog Try.sortSp_ren := {
  mixed := by kernel_rfl
  f6 := ⟨Try.f59.name, by decide, Try.func59.trans (congrArg some (by kernel_rfl))⟩
  f14 := ⟨Try.f67.name, by decide, Try.func67.trans (congrArg some (by kernel_rfl))⟩
  f15 := Try.func68.trans (congrArg some (by kernel_rfl))
  f20 := ⟨Try.f73.name, by decide, Try.func73.trans (congrArg some (by kernel_rfl))⟩
  f21 := ⟨Try.f74.name, by decide, Try.func74.trans (congrArg some (by kernel_rfl))⟩
  f22 := ⟨Try.f75.name, by decide, Try.func75.trans (congrArg some (by kernel_rfl))⟩
  f23 := ⟨Try.f76.name, by decide, Try.func76.trans (congrArg some (by kernel_rfl))⟩
  f24 := ⟨Try.f77.name, by decide, Try.func77.trans (congrArg some (by kernel_rfl))⟩
  f25 := ⟨Try.f78.name, by decide, Try.func78.trans (congrArg some (by kernel_rfl))⟩
  f26 := ⟨Try.f79.name, by decide, Try.func79.trans (congrArg some (by kernel_rfl))⟩
  f27 := ⟨Try.f80.name, by decide, Try.func80.trans (congrArg some (by kernel_rfl))⟩
  f28 := Try.func81.trans (congrArg some (by kernel_rfl))
  f29 := Try.func82.trans (congrArg some (by kernel_rfl))
  f46 := ⟨Try.f85.name, by decide, Try.func85.trans (congrArg some (by kernel_rfl))⟩
  f47 := Try.func86.trans (congrArg some (by kernel_rfl))
  f48 := Try.func87.trans (congrArg some (by kernel_rfl))
  f49 := ⟨Try.f88.name, by decide, Try.func88.trans (congrArg some (by kernel_rfl))⟩
  f50 := ⟨Try.f89.name, by decide, Try.func89.trans (congrArg some (by kernel_rfl))⟩
  f57 := ⟨Try.f91.name, by decide, Try.func91.trans (congrArg some (by kernel_rfl))⟩
  t0 := Try.underlying0
  a0 := Try.isAgg0
  z0 := Try.sizeOf0
  v0 := Try.zeroValue0
  t3 := Try.underlying3
  a3 := Try.isAgg3
  z3 := Try.sizeOf3
  v3 := Try.zeroValue3
  t4 := Try.underlying4
  a4 := Try.isAgg4
  z4 := Try.sizeOf4
  v4 := Try.zeroValue4
  t5 := Try.underlying5
  a5 := Try.isAgg5
  z5 := Try.sizeOf5
  v5 := Try.zeroValue5
  t9 := Try.underlying9
  a9 := Try.isAgg9
  z9 := Try.sizeOf9
  v9 := Try.zeroValue9
  t22 := Try.underlying22
  a22 := Try.isAgg22
  z22 := Try.sizeOf22
  v22 := Try.zeroValue22
  t25 := Try.underlying91
  a25 := Try.isAgg91
  z25 := Try.sizeOf91
  v25 := Try.zeroValue91
  t39 := Try.underlying98
  a39 := Try.isAgg98
  z39 := Try.sizeOf98
  v39 := Try.zeroValue98
  t45 := Try.underlying103
  a45 := Try.isAgg103
  z45 := Try.sizeOf103
  v45 := Try.zeroValue103
  t46 := Try.underlying104
  a46 := Try.isAgg104
  z46 := Try.sizeOf104
  v46 := Try.zeroValue104
  t50 := Try.underlying44
  a50 := Try.isAgg44
  z50 := Try.sizeOf44
  v50 := Try.zeroValue44
  t53 := Try.underlying110
  a53 := Try.isAgg110
  z53 := Try.sizeOf110
  v53 := Try.zeroValue110
  t55 := Try.underlying112
  a55 := Try.isAgg112
  z55 := Try.sizeOf112
  v55 := Try.zeroValue112
  t66 := Try.underlying115
  a66 := Try.isAgg115
  z66 := Try.sizeOf115
  v66 := Try.zeroValue115
  t70 := Try.underlying119
  a70 := Try.isAgg119
  z70 := Try.sizeOf119
  v70 := Try.zeroValue119
  t76 := Try.underlying121
  a76 := Try.isAgg121
  z76 := Try.sizeOf121
  v76 := Try.zeroValue121
  t77 := Try.underlying122
  a77 := Try.isAgg122
  z77 := Try.sizeOf122
  v77 := Try.zeroValue122 }
end Go.Proofs

/-! ### XSort: slices.SortFunc under span.joined's closure, over a row of spans of one's own; slices.Clone of spans. -/
namespace Go.Proofs.Ytkpdccegamcppaa.PSpan
open Go.RowKit Go.Proofs.YtkpdccegamcppaaW.PrintWords Go.Proofs.YtkpdccegamcppaaW.PrintLast Go.Proofs.YtkpdccegamcppaaW.PrintMore Go.Sort
set_option linter.unusedVariables false
set_option linter.unusedSimpArgs false

instance : Inhabited S50 := ⟨z50⟩
def encS (x : S50) : List Value := [.int .i32 x.f0, .int .i32 x.f1]
def cmpF (x y : S50) : Int := if x.f0 < y.f0 then -1 else if x.f0 > y.f0 then 1 else 0
theorem joined1_f (a b c d : Int) : span_joined_1.f a b c d = some (if a < c then -1 else if a > c then 1 else 0) := by
  unfold span_joined_1.f cmp_Compare_rune.f cmp_isNaN_rune.f
  simp
  split
  · rfl
  · split <;> rfl
theorem cmpF_f (a c : Int) : cmp_Compare_rune.f a c = some (if a < c then -1 else if a > c then 1 else 0) := by
  unfold cmp_Compare_rune.f cmp_isNaN_rune.f
  simp
  split
  · rfl
  · split <;> rfl
theorem lt_cmpF (x y : S50) : ltOf cmpF x y = decide (x.f0 < y.f0) := by
  unfold ltOf cmpF
  by_cases h1 : x.f0 < y.f0
  · simp [h1]
  · by_cases h2 : x.f0 > y.f0 <;> simp [h1, h2]
theorem swo_cmpF : SWO (ltOf cmpF) where
  irrefl x := by rw [lt_cmpF]; simp
  trans x y z h1 h2 := by rw [lt_cmpF] at *; simp at *; omega
  ntrans x y z h1 h2 := by rw [lt_cmpF] at *; simp at *; omega

set_option maxRecDepth 100000 in
set_option maxHeartbeats 1000000 in
theorem closure_joined (x y : S50) (W : World) : Calls Try.prog 60 #[.agg #[.int .i32 x.f0, .int .i32 x.f1], .agg #[.int .i32 y.f0, .int .i32 y.f1]] W fun e w' => e = .returned (.int .i64 (cmpF x y)) ∧ ∃ q os', w' = grow (W.drewN q) os' := by
  have hcon := fun W' => cmp_Compare_rune.calls x.f0 y.f0 _ W' (cmpF_f x.f0 y.f0)
  change ∀ W', Calls Try.prog _ _ _ (fun e w' => e = .returned (.int .i64 (cmpF x y)) ∧ Drawn0 W' w') at hcon
  generalize cmpF x y = r at hcon ⊢
  generalize x.f0 = a at *
  generalize y.f0 = c at *
  go_enter Try.func60, Try.ntmps60
  go_wp2_with (go_at_call 61; refine (hcon _).mono ?_; rintro e w' ⟨rfl, n, rfl⟩)
  go_ret
  refine ⟨rfl, n, #[.cells #[.int .i32 a, .int .i32 x.f1] 50, .cells #[.int .i32 c, .int .i32 y.f1] 50], ?_⟩
  rw [alloc_eq_grow, alloc_eq_grow, grow_grow]
  rfl

theorem cmpLays_joined (blk off size : Nat) (w : World) : CmpLays Try.prog 60 #[] encS 2 cmpF blk off size w :=
  fun _ _ _ _ x y => closure_joined x y _

/-- Spans in order of their begins. -/
def SortP (li l0 : List S50) : Prop := l0.Perm li ∧ l0.Pairwise fun x y => x.f0 ≤ y.f0

theorem below_sort {B g : Nat} (hg : B ≤ g) (w : World) (hgl : g < w.heap.size) (n : Nat) (d : Array S50) (os : Array Obj) : Below B w (sortWorldK encS 2 w g 0 n d os) := by
  refine ⟨rfl, rfl, rfl, size_sortWorldK_c encS 2 w g 0 n d os, fun k hk => ?_⟩
  show ((w.heap.modify g _) ++ os)[k]? = _
  rw [Array.getElem?_append_left (by simp; omega), Array.getElem?_modify, if_neg (by omega)]
theorem encS_at {l : List S50} {w : World} {g : Nat} (h : ∀ i, i < l.length → w.cell? ⟨g, i * 2, none⟩ = some (.int .i32 (rd_T50 l (i : Int)).f0) ∧ w.cell? ⟨g, i * 2 + 1, none⟩ = some (.int .i32 (rd_T50 l (i : Int)).f1)) {cells : Array Value} (hc : w.heap[g]? = some (.cells cells 50 (0, 0))) : HoldsK encS 2 w g 0 l.toArray := by
  intro j hj
  rw [size_flatK] at hj
  simp only [List.size_toArray] at hj
  refine ⟨?_, by simp [World.frozen?, hc]⟩
  rw [get_flatK _ _ _ _ (by simpa using hj)]
  have hi : j / 2 < l.length := by omega
  obtain ⟨k0, k1⟩ := h (j / 2) hi
  have hx : l.toArray[j / 2]! = rd_T50 l ((j / 2 : Nat) : Int) := by
    unfold rd_T50
    rw [Int.toNat_natCast, List.getD_eq_getElem?_getD, List.getElem?_eq_getElem hi]
    simp [hi]
  rw [hx]
  rcases Nat.mod_two_eq_zero_or_one j with e | e
  · rw [e, show 0 + j = j / 2 * 2 by omega, k0]
    rfl
  · rw [e, show 0 + j = j / 2 * 2 + 1 by omega, k1]
    rfl
theorem C_encS {d : Array S50} {w : World} {g : Nat} (h : HoldsK encS 2 w g 0 d) (hs : d.size ≤ 9223372036854775807) : Kd.C k50 w (some ⟨g, 0, none⟩) d.size d.toList := by
  refine ⟨by simp, hs, fun _ => ⟨_, rfl, fun j p hp => ?_⟩⟩
  obtain ⟨hj, rfl⟩ := List.getElem?_eq_some_iff.1 hp
  have hj' : j < d.size := by simpa using hj
  have k0 := (h.cell hj' (show 0 < 2 by omega)).1
  have k1 := (h.cell hj' (show 1 < 2 by omega)).1
  have hx : d[j]! = d.toList[j] := by simp [hj']
  rw [hx] at k0 k1
  refine ⟨_, rfl, k50_mk _ _, fun i u hu => ?_⟩
  show w.cell? ((⟨g, 0, none⟩ : Addr).add (j * 2 + i)) = some u
  rw [Addr.add_lit, ← Nat.add_assoc]
  match i, hu with
  | 0, hu => cases hu; exact k0
  | 1, hu => cases hu; exact k1

def SortPost (w : World) (B : Nat) (A : Option Addr) (li : List S50) (e : Ending) (w' : World) : Prop :=
  e = .returned (.tuple #[]) ∧ Below B w w' ∧ ∃ l0, SortP li l0 ∧ Kd.C k50 w' A l0.length l0
theorem sort_calls (w : World) (B : Nat) (A : Option Addr) (n c : Nat) (li : List S50) (hl : li.length ≤ 16777216) (hB : B ≤ w.heap.size) (hR : Kd.R k50 50 w B (fun _ => True) (.slice A n c) li) :
    Calls Try.prog 59 #[.slice A li.length c, .func (.func 60) #[] #[]] w (SortPost w B A li) := by
  by_cases hn : 0 < li.length
  · obtain ⟨g, cells, rfl, hcells, hg⟩ := R_head hR hn
    have hgl : g < w.heap.size := (Array.getElem?_eq_some_iff.1 hcells).1
    have hH : HoldsK encS 2 w g 0 li.toArray := encS_at (fun i hi => ⟨(R_cellsP hR i hi).2.1, (R_cellsP hR i hi).2.2⟩) hcells
    have eg : ∀ args w, (callFunc 60 args).run Try.prog w = .ok (.enter 60 args) w := fun args w => call_enters (f := 60) Try.func60 (by kernel_rfl) (by kernel_rfl) args w
    have hcon := AnyQ.slices_SortFunc Try.sortSp 2 (fun w => by kernel_rfl) (fun w => by kernel_rfl) encS (fun _ => rfl) (fun x v hv => by simp [encS] at hv; rcases hv with rfl | rfl <;> rfl) cmpF swo_cmpF 60 #[] g 0 c li.toArray w eg (cmpLays_joined g 0 li.toArray.size w) hH hgl (by simp; omega)
    change Calls Try.prog 59 _ _ _ at hcon
    rw [List.size_toArray] at hcon
    refine hcon.mono ?_
    rintro e w' ⟨rfl, d', m, os, hp, hs, rfl⟩
    obtain ⟨h1, _, h3⟩ := hp
    have hsz : d'.size = li.length := by rw [h1]; simp
    refine ⟨rfl, below_sort hg w hgl _ _ _, d'.toList, ⟨?_, ?_⟩, ?_⟩
    · have e1 : d'.extract 0 li.length = d' := by rw [← hsz]; simp
      have e2 : li.toArray.extract 0 li.length = li.toArray := by simp
      rw [e1, e2] at h3
      exact h3
    · rw [List.pairwise_iff_getElem]
      intro i j hi hj hij
      have := hs i j (Nat.zero_le _) hij (by simpa [hsz] using hj)
      rw [lt_cmpF] at this
      have hi' : i < d'.size := by simpa using hi
      have hj' : j < d'.size := by simpa using hj
      simpa [hi', hj'] using this
    · have hH2 := holdsK_sortWorldK_c encS 2 w g 0 li.toArray d' m os hH hgl (by rw [hsz]; simp)
      have := C_encS hH2 (by omega)
      rw [Array.length_toList]
      exact this
  · obtain rfl : li = [] := List.eq_nil_of_length_eq_zero (by omega)
    refine (AnyF.slices_SortFunc_none Try.sortSp A c (.func (.func 60) #[] #[]) w).mono ?_
    rintro e w' ⟨rfl, rfl⟩
    exact ⟨rfl, Below.refl _ _, [], ⟨List.Perm.refl _, List.Pairwise.nil⟩, rfl, Nat.zero_le _, fun h => absurd h (Nat.lt_irrefl 0)⟩

set_option maxRecDepth 100000 in
set_option maxHeartbeats 1000000 in
theorem clone_calls (w : World) (A : Option Addr) (c : Nat) (l : List S50) (hC : Kd.C k50 w A l.length l) (hc : l.length ≤ c) (hl : l.length ≤ 16777216) :
    Calls Try.prog 46 #[.slice A l.length c] w fun e w' => ∃ v, e = .returned v ∧ Kd.R k50 50 w' w.heap.size (fun _ => True) v l ∧ Below w.heap.size w w' := by
  have HC := Aside0.mk hC
  have info' := info50
  have heq := fun (w : World) => Lib.run_eql_slice_nil (P := Try.prog) w 22 50 A l.length c 0 0 Try.underlying22
  cases A with
  | none =>
    obtain rfl : l = [] := by
      cases l with
      | nil => rfl
      | cons x l => obtain ⟨ad, h, _⟩ := hC.2.2 (by simp); cases h
    clear hC heq
    have heq := fun (w : World) => Lib.run_eql_slice_nil (P := Try.prog) w 22 50 none 0 c 0 0 Try.underlying22
    go_enter Try.func46, Try.ntmps46
    go_wp2_with fail
    go_ret
    exact ⟨_, rfl, Kd.R_nil _ _ _ _ _, Below.refl _ _⟩
  | some a =>
    clear hC
    go_enter Try.func46, Try.ntmps46
    go_wp2_with (first | ((with_reducible refine gate_dst (N := 5) rfl ?_); refine Kd.R_lit k50 _ 50 ?hg (N := 5) ?hd (xs := ([] : List S50)) (inner := []) (ok := fun _ => True) (okp := fun _ => True) ?hr ?hp (fun _ hk => hk) trivial (Below.refl _ _) (Nat.le_refl _) (by simp) ?_; (case hd => rfl); (case hg => rfl); (case hr => first | (go_simp; done) | (go_simp; rfl)); (case hp => exact (Reps.none _ _)); intro v1 w1 ho1 hb1 hg1 hn1; clear hg1 hn1; have HO1 := Aside0.mk ho1; have HB1 := Aside0.mk hb1; clear ho1 hb1) | ((with_reducible refine gate_builtin (b := .append) (xs := #[.tmp 5, .tmp 6]) rfl ?_); at_builtin; refine Kd.R_append_rows k50 (w0 := w) w.heap.size rfl (.tmp 5) (.tmp 6) 22 50 (.agg #[.int .i32 0, .int .i32 0]) 8 rfl Try.underlying22 info' rfl (by decide) (by omega) v1 [] l _ _ _ (fun _ => True) (fun _ => False) rfl rfl HO1.out (Kd.C_below HC.out HB1.out) (fun _ _ h => h) (fun _ h => h.elim) (fun _ _ => trivial) HB1.out HB1.out.size (by simp only [List.length_nil]; omega) ?_; intro v2 w2 ho2 hb2 hg2 hat2; clear hg2 hat2; rw [List.nil_append] at ho2; have HO2 := Aside0.mk ho2; have HB2 := Aside0.mk hb2; clear ho2 hb2))
    go_ret
    exact ⟨_, rfl, HO2.out, HB2.out⟩

end Go.Proofs.Ytkpdccegamcppaa.PSpan
