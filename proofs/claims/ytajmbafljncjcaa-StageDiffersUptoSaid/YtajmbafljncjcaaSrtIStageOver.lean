/- slices.Sort over numbers of one's own; the shelf's contract at this program, in plain words (written by the kit's lay-plain.mjs). -/
import Derived.Test.YtajmbafljncjcaaPStageOverx0
import Derived.Test.YtajmbafljncjcaaStE
import Derived.Shelf.Sort.Plain
import Derived.Ground.NamesProg
namespace Go.Proofs
open Go.Shelf
def Try.sortI_ren : Go.Shelf.Ren := ⟨fun | 189 => 88 | 125 => 104 | 257 => 107 | 128 => 118 | 129 => 119 | 294 => 120 | 295 => 121 | 296 => 122 | 297 => 123 | 298 => 124 | 299 => 125 | 216 => 126 | 300 => 127 | 301 => 128 | 328 => 134 | 329 => 130 | 330 => 131 | 331 => 135 | 332 => 136 | 215 => 105 | 343 => 138 | n => n, fun | 28 => 54 | 3 => 3 | 46 => 112 | 0 => 0 | 51 => 160 | 53 => 162 | 4 => 4 | 183 => 154 | 182 => 153 | 131 => 143 | 5 => 5 | 9 => 9 | 218 => 169 | 222 => 106 | 228 => 176 | 229 => 36 | n => n, fun | n => n⟩
theorem Try.sortI : Go.Proofs.Lays.n189 Try.prog Try.sortI_ren := {
  mixed := by kernel_rfl
  f125 := Try.func104.trans (congrArg some (by kernel_rfl))
  f128 := Try.func118.trans (congrArg some (by kernel_rfl))
  f129 := Try.func119.trans (congrArg some (by kernel_rfl))
  f189 := Try.func88.trans (congrArg some (by kernel_rfl))
  f215 := Try.func105.trans (congrArg some (by kernel_rfl))
  f216 := Try.func126.trans (congrArg some (by kernel_rfl))
  f257 := Try.func107.trans (congrArg some (by kernel_rfl))
  f294 := Try.func120.trans (congrArg some (by kernel_rfl))
  f295 := Try.func121.trans (congrArg some (by kernel_rfl))
  f296 := Try.func122.trans (congrArg some (by kernel_rfl))
  f297 := Try.func123.trans (congrArg some (by kernel_rfl))
  f298 := Try.func124.trans (congrArg some (by kernel_rfl))
  f299 := Try.func125.trans (congrArg some (by kernel_rfl))
  f300 := Try.func127.trans (congrArg some (by kernel_rfl))
  f301 := Try.func128.trans (congrArg some (by kernel_rfl))
  f328 := Try.func134.trans (congrArg some (by kernel_rfl))
  f329 := Try.func130.trans (congrArg some (by kernel_rfl))
  f330 := Try.func131.trans (congrArg some (by kernel_rfl))
  f331 := Try.func135.trans (congrArg some (by kernel_rfl))
  f332 := Try.func136.trans (congrArg some (by kernel_rfl))
  f343 := Try.func138.trans (congrArg some (by kernel_rfl))
  t0 := Try.underlying0
  a0 := Try.isAgg0
  z0 := Try.sizeOf0
  v0 := Try.zeroValue0
  t3 := Try.underlying3
  a3 := Try.isAgg3
  z3 := Try.sizeOf3
  v3 := Try.zeroValue3
  t4 := Try.underlying4
  a4 := Try.isAgg4
  z4 := Try.sizeOf4
  v4 := Try.zeroValue4
  t5 := Try.underlying5
  a5 := Try.isAgg5
  z5 := Try.sizeOf5
  v5 := Try.zeroValue5
  t9 := Try.underlying9
  a9 := Try.isAgg9
  z9 := Try.sizeOf9
  v9 := Try.zeroValue9
  t28 := Try.underlying54
  a28 := Try.isAgg54
  z28 := Try.sizeOf54
  v28 := Try.zeroValue54
  t46 := Try.underlying112
  a46 := Try.isAgg112
  z46 := Try.sizeOf112
  v46 := Try.zeroValue112
  t51 := Try.underlying160
  a51 := Try.isAgg160
  z51 := Try.sizeOf160
  v51 := Try.zeroValue160
  t53 := Try.underlying162
  a53 := Try.isAgg162
  z53 := Try.sizeOf162
  v53 := Try.zeroValue162
  t131 := Try.underlying143
  a131 := Try.isAgg143
  z131 := Try.sizeOf143
  v131 := Try.zeroValue143
  t182 := Try.underlying153
  a182 := Try.isAgg153
  z182 := Try.sizeOf153
  v182 := Try.zeroValue153
  t183 := Try.underlying154
  a183 := Try.isAgg154
  z183 := Try.sizeOf154
  v183 := Try.zeroValue154
  t218 := Try.underlying169
  a218 := Try.isAgg169
  z218 := Try.sizeOf169
  v218 := Try.zeroValue169
  t222 := Try.underlying106
  a222 := Try.isAgg106
  z222 := Try.sizeOf106
  v222 := Try.zeroValue106
  t228 := Try.underlying176
  a228 := Try.isAgg176
  z228 := Try.sizeOf176
  v228 := Try.zeroValue176
  t229 := Try.underlying36
  a229 := Try.isAgg36
  z229 := Try.sizeOf36
  v229 := Try.zeroValue36 }
end Go.Proofs

namespace Go.Proofs.Ytajmbafljncjcaa.PStageOver
open Go.RowKit Go.Proofs.YtajmbafljncjcaaW.PrintWords Go.Proofs.YtajmbafljncjcaaW.PrintLast Go.Proofs.YtajmbafljncjcaaW.PrintMore Go.Proofs.Ytajmbafljncjcaa.Stage Go.Proofs.Ytajmbafljncjcaa.Mp Go.Sort
set_option linter.unusedVariables false
set_option linter.unusedSimpArgs false

def SortPostI (w : World) (B : Nat) (A : Option Addr) (li : List Int) (e : Ending) (w' : World) : Prop :=
  e = .returned (.tuple #[]) ∧ Below B w w' ∧ ∃ l0, l0.Perm li ∧ l0.Pairwise (fun x y => x ≤ y) ∧ Kd.C (Kd.int .i64) w' A l0.length l0
theorem at_I {w : World} {A : Option Addr} {n : Nat} {zs : List Int} (h : Kd.C (Kd.int .i64) w A n zs) (i : Nat) (hi : i < zs.length) : ∃ ad, A = some ad ∧ w.cell? (ad.add i) = some (.int .i64 (zs.getD i 0)) := by
  have hn := Kd.C_len h
  obtain ⟨ad, c, e, _, hK, hc0⟩ := Kd.C_get h 0 (i : Int) (by omega) (by omega)
  obtain rfl : c = [.int .i64 (zs.getD (i : Int).toNat 0)] := hK
  refine ⟨ad, e, ?_⟩
  have := hc0 0 _ rfl
  rw [Int.toNat_natCast] at this
  have e1 : i * (Kd.int .i64).sz + 0 = i := by show i * 1 + 0 = i; omega
  rw [e1] at this
  exact this
theorem sortI_calls (w : World) (B : Nat) (A : Option Addr) (n c : Nat) (li : List Int) (hpos : 0 < li.length) (hl : li.length ≤ 16777216) (hR : Kd.R (Kd.int .i64) 3 w B (fun _ => True) (.slice A n c) li) :
    Calls Try.prog 88 #[.slice A li.length c] w (SortPostI w B A li) := by
  obtain ⟨A', c', hv, _, hC⟩ := Kd.R_reads hR
  injection hv with e1 e2 e3
  subst e1
  obtain ⟨ad, rfl, _⟩ := at_I hC 0 hpos
  obtain ⟨g, rfl⟩ := Kd.R_head hR
  obtain ⟨_, hg, hgl, q, hq, cells, hcells⟩ := (Kd.R_bound hR).1 g rfl
  have hH : Holds (Value.int .i64) w g 0 li.toArray := fun j hj => by
    have hj' : j < li.length := by simpa using hj
    obtain ⟨ad, e, hc⟩ := at_I hC j hj'
    cases e
    rw [Addr.add_lit] at hc
    refine ⟨?_, by simp [World.frozen?, hcells]⟩
    rw [hc]
    simp [List.getD_eq_getElem?_getD, List.getElem?_eq_getElem hj']
  have hcon := Any.slices_Sort_int Try.sortI g 0 c li w hH hgl (by omega)
  change Calls Try.prog 88 _ _ _ at hcon
  refine hcon.mono ?_
  rintro e w' ⟨rfl, m, os, rfl⟩
  have hp : (li.mergeSort fun x y => decide (x ≤ y)).Perm li := List.mergeSort_perm _ _
  have hgr : w.grownBy (grow (putRow (Value.int .i64) (Sort.ahead w m) g 0 (li.mergeSort fun x y => decide (x ≤ y)).toArray) os) (some g) := by
    refine ⟨rfl, rfl, rfl, by simp, fun k hk hne => ?_⟩
    rw [heap_grow_old _ _ (by simpa using hk)]
    have : g ≠ k := fun e => hne (by rw [e])
    simp [putRow, mapBlock, Sort.ahead, Array.getElem?_modify, this]
  refine ⟨rfl, ⟨hgr.os, hgr.tape, hgr.output, hgr.size, fun k hk => hgr.block k (by omega) (fun e => by cases e; omega)⟩, li.mergeSort fun x y => decide (x ≤ y), hp, ?_, ?_⟩
  · have := List.pairwise_mergeSort (le := fun x y : Int => decide (x ≤ y)) (fun a b c h1 h2 => by simp at *; omega) (fun a b => by simp; omega) li
    simpa using this
  · have hs : (li.mergeSort fun x y => decide (x ≤ y)).toArray.size = li.toArray.size := by simp [hp.length_eq]
    have hH2 := holds_putRow (Value.int .i64) (Sort.ahead w m) g 0 li.toArray _ hH hs
    refine ⟨rfl, by rw [hp.length_eq]; omega, fun _ => ⟨_, rfl, fun j p hp' => ?_⟩⟩
    have hj : j < (li.mergeSort fun x y => decide (x ≤ y)).length := (List.getElem?_eq_some_iff.1 hp').1
    have hc := (hH2 j (by simpa using hj)).1
    refine ⟨[.int .i64 p], rfl, rfl, fun i u hu => ?_⟩
    match i, hu with
    | 0, hu =>
      cases hu
      show World.cell? _ ((⟨g, 0, none⟩ : Addr).add (j * 1 + 0)) = some (.int .i64 p)
      rw [Addr.add_lit, show 0 + (j * 1 + 0) = 0 + j by omega]
      rw [cell?_grow _ _ _ (by simpa using hgl)]
      have e2 : (li.mergeSort fun x y => decide (x ≤ y)).toArray[j]! = p := by
        simp [hp']
      rw [e2] at hc
      exact hc
end Go.Proofs.Ytajmbafljncjcaa.PStageOver
