/- Triples are compared: cmp.Compare, cmp.Or, Pairs' second function. slices.SortFunc over rows of three numbers; the shelf's contract at this program, in plain words (written by the kit's lay-plain.mjs). -/
import Derived.Test.YtajmbafljncjcaaPStageOverx0
import Derived.Test.YtajmbafljncjcaaStE
import Derived.Shelf.SlSortCmp.NoneTotal
import Derived.StillTailTactics
import Derived.Shelf.SlGeneric
import Derived.Ground.SlsfProg
/-! ### SrtC: Triples are compared: cmp.Compare, cmp.Or, Pairs' second function. -/
namespace Go.Proofs.Ytajmbafljncjcaa.PStageOver
open Go.RowKit Go.Proofs.YtajmbafljncjcaaW.PrintWords Go.Proofs.YtajmbafljncjcaaW.PrintLast Go.Proofs.YtajmbafljncjcaaW.PrintMore Go.Proofs.Ytajmbafljncjcaa.Stage Go.Proofs.Ytajmbafljncjcaa.Mp Go.Sort
set_option linter.unusedVariables false
set_option linter.unusedSimpArgs false

theorem nanI_calls (W : World) (a : Int) : Calls Try.prog 105 #[.int .i64 a] W fun e w' => e = .returned (.bool false) ∧ w' = W := by
  go_enter Try.func105, Try.ntmps105
  go_wp2_with fail
  go_ret
  exact ⟨by simp, rfl⟩
def cmpI (a b : Int) : Int := if a < b then -1 else if b < a then 1 else 0
set_option maxRecDepth 100000 in
theorem cmpI_calls (W : World) (a b : Int) : Calls Try.prog 83 #[.int .i64 a, .int .i64 b] W fun e w' => e = .returned (.int .i64 (cmpI a b)) ∧ w' = W := by
  have HN := Aside0.mk (fun (W : World) (x : Int) => nanI_calls W x)
  have h3 : (a < b ∧ cmpI a b = -1) ∨ (¬ a < b ∧ a > b ∧ cmpI a b = 1) ∨ (¬ a < b ∧ ¬ a > b ∧ cmpI a b = 0) := by
    unfold cmpI
    by_cases h1 : a < b
    · exact .inl ⟨h1, if_pos h1⟩
    · by_cases h2 : b < a
      · exact .inr (.inl ⟨h1, h2, by rw [if_neg h1, if_pos h2]⟩)
      · exact .inr (.inr ⟨h1, h2, by rw [if_neg h1, if_neg h2]⟩)
  rcases h3 with ⟨h1, e⟩ | ⟨h1, h2, e⟩ | ⟨h1, h2, e⟩
  all_goals
    rw [e]
    go_enter Try.func83, Try.ntmps83
    go_wp2_with fail
    refine (HN.out W a).mono ?_
    rintro e w1 ⟨rfl, rfl⟩
    go_wp2_with fail
    refine (HN.out w1 b).mono ?_
    rintro e w2 ⟨rfl, rfl⟩
    go_wp2_with fail
    go_ret
    exact ⟨rfl, rfl⟩
def orI (a b : Int) : Int := if a = 0 then b else a
set_option maxRecDepth 100000 in
set_option maxHeartbeats 1000000 in
theorem or_calls (W : World) (g c : Nat) (a b : Int) (h0 : W.cell? ⟨g, 0, none⟩ = some (.int .i64 a)) (h1 : W.cell? ⟨g, 1, none⟩ = some (.int .i64 b)) :
    Calls Try.prog 82 #[.slice (some ⟨g, 0, none⟩) 2 c] W fun e w' => e = .returned (.int .i64 (orI a b)) ∧ w' = W := by
  go_enter Try.func82, Try.ntmps82
  go_wp2
  go_loopg [8] 3 (fun k v8 wr => ∃ i : Nat, i ≤ 2 ∧ 3 - i ≤ k ∧ v8 = .int .i64 (i : Int) ∧ (i = 0 ∨ (i = 1 ∧ a = 0) ∨ (i = 2 ∧ a = 0 ∧ b = 0)) ∧ wr = W)
  case atStart => exact ⟨0, by omega, by omega, rfl, .inl rfl, rfl⟩
  case round =>
    obtain ⟨i, hi, hk, rfl, hc, rfl⟩ := hrel
    rcases hc with rfl | ⟨rfl, ha⟩ | ⟨rfl, ha, hb⟩
    · by_cases hz : a = 0
      · subst hz
        go_wp2
        go_roundg (gk - 1)
        case measure => omega
        case rel => exact ⟨1, by omega, by omega, by go_num, .inr (.inl ⟨rfl, by first | trivial | rfl⟩), rfl⟩
      · go_wp2
        go_ret
        exact ⟨by rw [orI, if_neg hz]; rfl, rfl⟩
    · by_cases hz : b = 0
      · subst hz
        go_wp2
        go_roundg (gk - 1)
        case measure => omega
        case rel => exact ⟨2, by omega, by omega, by go_num, .inr (.inr ⟨rfl, by first | exact ha | trivial, by first | trivial | rfl⟩), rfl⟩
      · go_wp2
        go_ret
        exact ⟨by rw [orI, if_pos ha]; rfl, rfl⟩
    · go_wp2
      go_ret
      exact ⟨by rw [orI, if_pos ha, hb]; rfl, rfl⟩

def encT (x : S30) : List Value := [.int .i64 x.f0, .int .i64 x.f1, .int .i64 x.f2]
def cmpT (x y : S30) : Int := orI (cmpI x.f0 y.f0) (cmpI x.f1 y.f1)
theorem lt_cmpT (x y : S30) : ltOf cmpT x y = decide (x.f0 < y.f0 ∨ (x.f0 = y.f0 ∧ x.f1 < y.f1)) := by
  unfold ltOf cmpT orI cmpI
  rw [Bool.eq_iff_iff, decide_eq_true_eq, decide_eq_true_eq]
  split <;> split <;> (try split) <;> omega
theorem swo_cmpT : SWO (ltOf cmpT) where
  irrefl x := by rw [lt_cmpT]; simp
  trans x y z h1 h2 := by rw [lt_cmpT, decide_eq_true_eq] at *; omega
  ntrans x y z h1 h2 := by rw [lt_cmpT, decide_eq_false_iff_not] at *; omega

theorem two_cells (W2 : World) (u v : Int) : (W2.alloc (.cells #[.int .i64 u, .int .i64 v] 3)).drew.cell? ⟨W2.heap.size, 0, none⟩ = some (.int .i64 u) ∧ (W2.alloc (.cells #[.int .i64 u, .int .i64 v] 3)).drew.cell? ⟨W2.heap.size, 1, none⟩ = some (.int .i64 v) :=
  ⟨(blk_new W2 [.int .i64 u, .int .i64 v] 3).cell 0, (blk_new W2 [.int .i64 u, .int .i64 v] 3).cell 1⟩
set_option maxRecDepth 100000 in
set_option maxHeartbeats 1000000 in
theorem closure_pairs (x y : S30) (W : World) : Calls Try.prog 81 #[.agg #[.int .i64 x.f0, .int .i64 x.f1, .int .i64 x.f2], .agg #[.int .i64 y.f0, .int .i64 y.f1, .int .i64 y.f2]] W fun e w' => e = .returned (.int .i64 (cmpT x y)) ∧ ∃ q os', w' = grow (W.drewN q) os' := by
  have HC := Aside0.mk (fun (W : World) (a b : Int) => cmpI_calls W a b)
  have HO := Aside0.mk (fun (W : World) (g c : Nat) (a b : Int) (h0 : W.cell? ⟨g, 0, none⟩ = some (.int .i64 a)) (h1 : W.cell? ⟨g, 1, none⟩ = some (.int .i64 b)) => or_calls W g c a b h0 h1)
  have hT : cmpT x y = orI (cmpI x.f0 y.f0) (cmpI x.f1 y.f1) := rfl
  rw [hT]
  clear hT
  generalize x.f0 = a0 at *
  generalize x.f1 = a1 at *
  generalize x.f2 = a2 at *
  generalize y.f0 = b0 at *
  generalize y.f1 = b1 at *
  generalize y.f2 = b2 at *
  have x0 : ((W.alloc (.cells #[.int .i64 a0, .int .i64 a1, .int .i64 a2] 81)).alloc (.cells #[.int .i64 b0, .int .i64 b1, .int .i64 b2] 81)).cell? ⟨W.heap.size, 0, none⟩ = some (.int .i64 a0) := ((blk_new W [.int .i64 a0, .int .i64 a1, .int .i64 a2] 81).alloc _).cell 0
  have x1 : ((W.alloc (.cells #[.int .i64 a0, .int .i64 a1, .int .i64 a2] 81)).alloc (.cells #[.int .i64 b0, .int .i64 b1, .int .i64 b2] 81)).cell? ⟨W.heap.size, 1, none⟩ = some (.int .i64 a1) := ((blk_new W [.int .i64 a0, .int .i64 a1, .int .i64 a2] 81).alloc _).cell 1
  have y0 : ((W.alloc (.cells #[.int .i64 a0, .int .i64 a1, .int .i64 a2] 81)).alloc (.cells #[.int .i64 b0, .int .i64 b1, .int .i64 b2] 81)).cell? ⟨(W.alloc (.cells #[.int .i64 a0, .int .i64 a1, .int .i64 a2] 81)).heap.size, 0, none⟩ = some (.int .i64 b0) := (blk_new _ [.int .i64 b0, .int .i64 b1, .int .i64 b2] 81).cell 0
  have y1 : ((W.alloc (.cells #[.int .i64 a0, .int .i64 a1, .int .i64 a2] 81)).alloc (.cells #[.int .i64 b0, .int .i64 b1, .int .i64 b2] 81)).cell? ⟨(W.alloc (.cells #[.int .i64 a0, .int .i64 a1, .int .i64 a2] 81)).heap.size, 1, none⟩ = some (.int .i64 b1) := (blk_new _ [.int .i64 b0, .int .i64 b1, .int .i64 b2] 81).cell 1
  rw [alloc_size] at y0 y1
  go_enter Try.func81, Try.ntmps81
  go_wp2
  generalize hW2 : (W.alloc (.cells #[.int .i64 a0, .int .i64 a1, .int .i64 a2] 81)).alloc (.cells #[.int .i64 b0, .int .i64 b1, .int .i64 b2] 81) = W2 at *
  have HOO := Aside0.mk (HO.out (W2.alloc (.cells #[.int .i64 (cmpI a0 b0), .int .i64 (cmpI a1 b1)] 3)).drew W2.heap.size 2 (cmpI a0 b0) (cmpI a1 b1) (two_cells W2 _ _).1 (two_cells W2 _ _).2)
  refine wp_region_still_tail 10 (by kernel_rfl) (by kernel_rfl) ?_
  simp only [List.take_succ_cons, List.take_zero, List.drop_succ_cons, List.drop_zero]
  still_step
  still_step
  still_step
  still_step
  still_call (HC.out _ _ _)
  still_step
  still_step
  still_step
  still_step
  still_call (HC.out _ _ _)
  refine wpStill_nil ?_
  change wpList _ _ _ _ _ W2.drew
  go_wp2_with fail
  refine HOO.out.mono ?_
  rintro e w' ⟨rfl, rfl⟩
  go_wp2
  go_ret
  refine ⟨rfl, 1, #[.cells #[.int .i64 a0, .int .i64 a1, .int .i64 a2] 81, .cells #[.int .i64 b0, .int .i64 b1, .int .i64 b2] 81, .cells #[.int .i64 (cmpI a0 b0), .int .i64 (cmpI a1 b1)] 3], ?_⟩
  rw [← hW2, alloc_eq_grow, alloc_eq_grow, alloc_eq_grow, grow_grow, grow_grow]
  rfl

end Go.Proofs.Ytajmbafljncjcaa.PStageOver

/-! ### Srt: slices.SortFunc over rows of three numbers; the shelf's contract at this program, in plain words (written by the kit's lay-plain.mjs). -/
namespace Go.Proofs
open Go.Shelf
def Try.sortT_ren : Go.Shelf.Ren := ⟨fun | 6 => 80 | 15 => 104 | 14 => 103 | 28 => 118 | 29 => 119 | 20 => 110 | 21 => 111 | 22 => 112 | 23 => 113 | 24 => 114 | 25 => 115 | 26 => 116 | 27 => 117 | 46 => 129 | 47 => 130 | 48 => 131 | 49 => 132 | 50 => 133 | 57 => 137 | n => n, fun | 22 => 79 | 24 => 81 | 25 => 131 | 3 => 3 | 39 => 112 | 0 => 0 | 53 => 160 | 55 => 162 | 4 => 4 | 46 => 154 | 45 => 153 | 50 => 143 | 5 => 5 | 9 => 9 | 66 => 169 | 70 => 106 | 76 => 176 | 77 => 36 | n => n, fun | n => n⟩
theorem Try.sortT : Go.Proofs.SlLaysF0.n6 Try.prog Try.sortT_ren := {
  mixed := by kernel_rfl
  f6 := ⟨Try.f80.name, by decide, Try.func80.trans (congrArg some (by kernel_rfl))⟩
  f14 := ⟨Try.f103.name, by decide, Try.func103.trans (congrArg some (by kernel_rfl))⟩
  f15 := Try.func104.trans (congrArg some (by kernel_rfl))
  f20 := ⟨Try.f110.name, by decide, Try.func110.trans (congrArg some (by kernel_rfl))⟩
  f21 := ⟨Try.f111.name, by decide, Try.func111.trans (congrArg some (by kernel_rfl))⟩
  f22 := ⟨Try.f112.name, by decide, Try.func112.trans (congrArg some (by kernel_rfl))⟩
  f23 := ⟨Try.f113.name, by decide, Try.func113.trans (congrArg some (by kernel_rfl))⟩
  f24 := ⟨Try.f114.name, by decide, Try.func114.trans (congrArg some (by kernel_rfl))⟩
  f25 := ⟨Try.f115.name, by decide, Try.func115.trans (congrArg some (by kernel_rfl))⟩
  f26 := ⟨Try.f116.name, by decide, Try.func116.trans (congrArg some (by kernel_rfl))⟩
  f27 := ⟨Try.f117.name, by decide, Try.func117.trans (congrArg some (by kernel_rfl))⟩
  f28 := Try.func118.trans (congrArg some (by kernel_rfl))
  f29 := Try.func119.trans (congrArg some (by kernel_rfl))
  f46 := ⟨Try.f129.name, by decide, Try.func129.trans (congrArg some (by kernel_rfl))⟩
  f47 := Try.func130.trans (congrArg some (by kernel_rfl))
  f48 := Try.func131.trans (congrArg some (by kernel_rfl))
  f49 := ⟨Try.f132.name, by decide, Try.func132.trans (congrArg some (by kernel_rfl))⟩
  f50 := ⟨Try.f133.name, by decide, Try.func133.trans (congrArg some (by kernel_rfl))⟩
  f57 := ⟨Try.f137.name, by decide, Try.func137.trans (congrArg some (by kernel_rfl))⟩
  t0 := Try.underlying0
  a0 := Try.isAgg0
  z0 := Try.sizeOf0
  v0 := Try.zeroValue0
  t3 := Try.underlying3
  a3 := Try.isAgg3
  z3 := Try.sizeOf3
  v3 := Try.zeroValue3
  t4 := Try.underlying4
  a4 := Try.isAgg4
  z4 := Try.sizeOf4
  v4 := Try.zeroValue4
  t5 := Try.underlying5
  a5 := Try.isAgg5
  z5 := Try.sizeOf5
  v5 := Try.zeroValue5
  t9 := Try.underlying9
  a9 := Try.isAgg9
  z9 := Try.sizeOf9
  v9 := Try.zeroValue9
  t22 := Try.underlying79
  a22 := Try.isAgg79
  z22 := Try.sizeOf79
  v22 := Try.zeroValue79
  t25 := Try.underlying131
  a25 := Try.isAgg131
  z25 := Try.sizeOf131
  v25 := Try.zeroValue131
  t39 := Try.underlying112
  a39 := Try.isAgg112
  z39 := Try.sizeOf112
  v39 := Try.zeroValue112
  t45 := Try.underlying153
  a45 := Try.isAgg153
  z45 := Try.sizeOf153
  v45 := Try.zeroValue153
  t46 := Try.underlying154
  a46 := Try.isAgg154
  z46 := Try.sizeOf154
  v46 := Try.zeroValue154
  t50 := Try.underlying143
  a50 := Try.isAgg143
  z50 := Try.sizeOf143
  v50 := Try.zeroValue143
  t53 := Try.underlying160
  a53 := Try.isAgg160
  z53 := Try.sizeOf160
  v53 := Try.zeroValue160
  t55 := Try.underlying162
  a55 := Try.isAgg162
  z55 := Try.sizeOf162
  v55 := Try.zeroValue162
  t66 := Try.underlying169
  a66 := Try.isAgg169
  z66 := Try.sizeOf169
  v66 := Try.zeroValue169
  t70 := Try.underlying106
  a70 := Try.isAgg106
  z70 := Try.sizeOf106
  v70 := Try.zeroValue106
  t76 := Try.underlying176
  a76 := Try.isAgg176
  z76 := Try.sizeOf176
  v76 := Try.zeroValue176
  t77 := Try.underlying36
  a77 := Try.isAgg36
  z77 := Try.sizeOf36
  v77 := Try.zeroValue36 }
end Go.Proofs

namespace Go.Proofs.Ytajmbafljncjcaa.PStageOver
open Go.RowKit Go.Proofs.YtajmbafljncjcaaW.PrintWords Go.Proofs.YtajmbafljncjcaaW.PrintLast Go.Proofs.YtajmbafljncjcaaW.PrintMore Go.Proofs.Ytajmbafljncjcaa.Stage Go.Proofs.Ytajmbafljncjcaa.Mp Go.Sort
set_option linter.unusedVariables false
set_option linter.unusedSimpArgs false

instance : Inhabited S30 := ⟨z30⟩
theorem cmpLays_pairs (blk off size : Nat) (w : World) : CmpLays Try.prog 81 #[] encT 3 cmpT blk off size w :=
  fun _ _ _ _ x y => closure_pairs x y _
/-- Triples in order of their first two numbers. -/
def SortedT (l : List S30) : Prop := l.Pairwise fun x y => ¬ (y.f0 < x.f0 ∨ (y.f0 = x.f0 ∧ y.f1 < x.f1))
theorem below_sortT {B g : Nat} (hg : B ≤ g) (w : World) (hgl : g < w.heap.size) (n : Nat) (d : Array S30) (os : Array Obj) : Below B w (sortWorldK encT 3 w g 0 n d os) := by
  refine ⟨rfl, rfl, rfl, size_sortWorldK_c encT 3 w g 0 n d os, fun k hk => ?_⟩
  show ((w.heap.modify g _) ++ os)[k]? = _
  rw [Array.getElem?_append_left (by simp; omega), Array.getElem?_modify, if_neg (by omega)]
theorem R_headT {w : World} {base : Nat} {ok : Nat → Prop} {A : Option Addr} {n c : Nat} {xs : List S30} (h : Kd.R k30 81 w base ok (.slice A n c) xs) (hn : 0 < xs.length) : ∃ g cells, A = some ⟨g, 0, none⟩ ∧ w.heap[g]? = some (.cells cells 81 (0, 0)) ∧ base ≤ g := by
  obtain ⟨A', c', hv, _, hC⟩ := Kd.R_reads h
  injection hv with e1 e2 e3
  subst e1
  obtain ⟨ad, e4, _⟩ := at_T30 hC 0 (by omega) (by omega)
  subst e4
  obtain ⟨g, rfl⟩ := Kd.R_head h
  obtain ⟨_, hb, _, q, hq, cells, hc⟩ := (Kd.R_bound h).1 g rfl
  refine ⟨g, cells, rfl, ?_, hb⟩
  simp [k30, Kd.iso, Kd.pair, Kd.int] at hq
  rcases hq with rfl | hq
  · exact hc
  · cases hq
theorem encT_at {l : List S30} {w : World} {g : Nat} (h : Kd.C k30 w (some ⟨g, 0, none⟩) l.length l) {cells : Array Value} (hc : w.heap[g]? = some (.cells cells 81 (0, 0))) : HoldsK encT 3 w g 0 l.toArray := by
  intro j hj
  rw [size_flatK] at hj
  simp only [List.size_toArray] at hj
  refine ⟨?_, by simp [World.frozen?, hc]⟩
  rw [get_flatK _ _ _ _ (by simpa using hj)]
  have hi : j / 3 < l.length := by omega
  obtain ⟨ad, e4, k0, k1, k2⟩ := at_T30 h ((j / 3 : Nat) : Int) (by omega) (by omega)
  cases e4
  rw [Int.toNat_natCast, Addr.add_lit] at k0 k1 k2
  simp only [Nat.zero_add] at k0 k1 k2
  have hx : l.toArray[j / 3]! = rd_T30 l ((j / 3 : Nat) : Int) := by
    unfold rd_T30
    rw [Int.toNat_natCast, List.getD_eq_getElem?_getD, List.getElem?_eq_getElem hi]
    simp [hi]
  rw [hx]
  have h3 : j % 3 = 0 ∨ j % 3 = 1 ∨ j % 3 = 2 := by omega
  rcases h3 with e | e | e
  · rw [e, show 0 + j = j / 3 * 3 by omega, k0]
    rfl
  · rw [e, show 0 + j = j / 3 * 3 + 1 by omega, k1]
    rfl
  · rw [e, show 0 + j = j / 3 * 3 + 2 by omega, k2]
    rfl
theorem C_encT {d : Array S30} {w : World} {g : Nat} (h : HoldsK encT 3 w g 0 d) (hs : d.size ≤ 9223372036854775807) : Kd.C k30 w (some ⟨g, 0, none⟩) d.size d.toList := by
  refine ⟨by simp, hs, fun _ => ⟨_, rfl, fun j p hp => ?_⟩⟩
  obtain ⟨hj, rfl⟩ := List.getElem?_eq_some_iff.1 hp
  have hj' : j < d.size := by simpa using hj
  have k0 := (h.cell hj' (show 0 < 3 by omega)).1
  have k1 := (h.cell hj' (show 1 < 3 by omega)).1
  have k2 := (h.cell hj' (show 2 < 3 by omega)).1
  have hx : d[j]! = d.toList[j] := by simp [hj']
  rw [hx] at k0 k1 k2
  refine ⟨_, rfl, k30_mk _ _, fun i u hu => ?_⟩
  show w.cell? ((⟨g, 0, none⟩ : Addr).add (j * 3 + i)) = some u
  rw [Addr.add_lit, ← Nat.add_assoc]
  match i, hu with
  | 0, hu => cases hu; exact k0
  | 1, hu => cases hu; exact k1
  | 2, hu => cases hu; exact k2

def SortPostT (w : World) (B : Nat) (A : Option Addr) (li : List S30) (e : Ending) (w' : World) : Prop :=
  e = .returned (.tuple #[]) ∧ Below B w w' ∧ ∃ l0, l0.Perm li ∧ SortedT l0 ∧ Kd.C k30 w' A l0.length l0
theorem sortT_calls (w : World) (B : Nat) (A : Option Addr) (n c : Nat) (li : List S30) (hl : li.length ≤ 16777216) (hR : Kd.R k30 81 w B (fun _ => True) (.slice A n c) li) :
    Calls Try.prog 80 #[.slice A li.length c, .func (.func 81) #[] #[]] w (SortPostT w B A li) := by
  by_cases hn : 0 < li.length
  · obtain ⟨g, cells, rfl, hcells, hg⟩ := R_headT hR hn
    have hgl : g < w.heap.size := (Array.getElem?_eq_some_iff.1 hcells).1
    obtain ⟨A', c', hv, _, hC⟩ := Kd.R_reads hR
    injection hv with e1 e2 e3
    subst e1
    have hH : HoldsK encT 3 w g 0 li.toArray := encT_at hC hcells
    have eg : ∀ args w, (callFunc 81 args).run Try.prog w = .ok (.enter 81 args) w := fun args w => call_enters (f := 81) Try.func81 (by kernel_rfl) (by kernel_rfl) args w
    have hcon := AnyQ.slices_SortFunc Try.sortT 3 (fun w => by kernel_rfl) (fun w => by kernel_rfl) encT (fun _ => rfl) (fun x v hv => by simp [encT] at hv; rcases hv with rfl | rfl | rfl <;> rfl) cmpT swo_cmpT 81 #[] g 0 c li.toArray w eg (cmpLays_pairs g 0 li.toArray.size w) hH hgl (by simp; omega)
    change Calls Try.prog 80 _ _ _ at hcon
    rw [List.size_toArray] at hcon
    refine hcon.mono ?_
    rintro e w' ⟨rfl, d', m, os, hp, hs, rfl⟩
    obtain ⟨h1, _, h3⟩ := hp
    have hsz : d'.size = li.length := by rw [h1]; simp
    refine ⟨rfl, below_sortT hg w hgl _ _ _, d'.toList, ?_, ?_, ?_⟩
    · have e1 : d'.extract 0 li.length = d' := by rw [← hsz]; simp
      have e2 : li.toArray.extract 0 li.length = li.toArray := by simp
      rw [e1, e2] at h3
      exact h3
    · unfold SortedT
      rw [List.pairwise_iff_getElem]
      intro i j hi hj hij
      have := hs i j (Nat.zero_le _) hij (by simpa [hsz] using hj)
      rw [lt_cmpT, decide_eq_false_iff_not] at this
      have hi' : i < d'.size := by simpa using hi
      have hj' : j < d'.size := by simpa using hj
      simpa [hi', hj'] using this
    · have hH2 := holdsK_sortWorldK_c encT 3 w g 0 li.toArray d' m os hH hgl (by rw [hsz]; simp)
      have := C_encT hH2 (by omega)
      rw [Array.length_toList]
      exact this
  · obtain rfl : li = [] := List.eq_nil_of_length_eq_zero (by omega)
    refine (AnyF.slices_SortFunc_none Try.sortT A c (.func (.func 81) #[] #[]) w).mono ?_
    rintro e w' ⟨rfl, rfl⟩
    exact ⟨rfl, Below.refl _ _, [], List.Perm.refl _, List.Pairwise.nil, rfl, Nat.zero_le _, fun h => absurd h (Nat.lt_irrefl 0)⟩
end Go.Proofs.Ytajmbafljncjcaa.PStageOver
