/- said: the table of what is said of each code point. Swap: a table with one number in the place of another one. Plain lists: a number in the place of another one; stretches between two code points. No program here. -/
import Derived.Test.YtajmbafljncjcaaStE
import Derived.Deep.RegionHeld3
/-! ### Said: said: the table of what is said of each code point. -/
namespace Go.Proofs.Ytajmbafljncjcaa.Stage
open Go.RowKit Go.Proofs.YtajmbafljncjcaaW.PrintWords Go.Proofs.YtajmbafljncjcaaW.PrintLast Go.Proofs.YtajmbafljncjcaaW.PrintMore Go.Proofs.Ytajmbafljncjcaa.Mp
set_option linter.unusedVariables false
set_option linter.unusedSimpArgs false

/-- An elder world's blocks are as they were. -/
def Old (w W : World) : Prop := ∀ k, k < w.heap.size → W.heap[k]? = w.heap[k]?
theorem Old.refl (w : World) : Old w w := fun _ _ => rfl
theorem Old.drew {w W : World} (h : Old w W) : Old w W.drew := h
theorem below_undrew {w W : World} (h : Below w.drew.heap.size w.drew W) : Below w.heap.size w W := ⟨h.os, h.tape, h.output, h.size, h.block⟩
theorem Old.of_below {w W : World} (h : Below w.heap.size w W) : Old w W := fun k hk => h.block k hk

/-- Two functions: what is said of a code point; whether a block has one number alone. -/
structure SaysF (w0 : World) (say : Nat → Nat) (ev : Nat → Bool) (Ns : FuncId) (fs cs : Array Value) (Ne : FuncId) (fe ce : Array Value) : Prop where
  entS : ∀ (args : Array Value) (W : World), (callFunc Ns args).run Try.prog W = .ok (.enter Ns args) W
  entE : ∀ (args : Array Value) (W : World), (callFunc Ne args).run Try.prog W = .ok (.enter Ne args) W
  bound : ∀ p, p < 1114112 → say p ≤ 65535
  even_ok : ∀ i, i < 8704 → ev i = true → ∀ j, j < 128 → say (128 * i + j) = say (128 * i)
  says : ∀ (W : World) (p : Nat), Old w0 W → p < 1114112 → Calls Try.prog Ns (fs ++ #[.int .i32 (p : Int)] ++ cs) W fun e W' => e = .returned (.int .i64 (say p : Nat)) ∧ Below W.heap.size W W'
  evens : ∀ (W : World) (i : Nat), Old w0 W → i < 8704 → Calls Try.prog Ne (fe ++ #[.int .i64 (i : Int)] ++ ce) W fun e W' => e = .returned (.bool (ev i)) ∧ Below W.heap.size W W'

theorem blk_eq {say : Nat → Nat} {i : Nat} {cur : List Nat} (hl : cur.length = 128) (h : ∀ j, j < 128 → cur.getD j 0 = say (128 * i + j)) : cur = blkOf say i := by
  apply List.ext_getElem (by rw [hl, blkOf_len])
  intro j h1 h2
  have e := h j (by omega)
  have e2 := blkOf_get say i j (by omega)
  rw [List.getD_eq_getElem?_getD, List.getElem?_eq_getElem h1, Option.getD_some] at e
  rw [List.getD_eq_getElem?_getD, List.getElem?_eq_getElem h2, Option.getD_some] at e2
  rw [e, e2]
theorem getD_set (cur : List Nat) (k j x : Nat) (hk : k < cur.length) : (cur.set k x).getD j 0 = if k = j then x else cur.getD j 0 := by
  simp only [List.getD_eq_getElem?_getD, List.getElem?_set]
  split
  · subst_vars; simp [hk]
  · rfl
theorem blk_zero {say : Nat → Nat} {i : Nat} (h : ∀ j, j < 128 → say (128 * i + j) = 0) : blkOf say i = zeros128 :=
  (blk_eq (cur := zeros128) zeros128_len (fun j hj => by rw [h j hj]; unfold zeros128; rw [List.getD_eq_getElem?_getD, List.getElem?_replicate]; split <;> rfl)).symm

/-- What stands in a cell: an equation that a walk may hold on to while the cell is written. -/
def cellOr (w : World) (a : Addr) : Value := (w.cell? a).getD undef
theorem cellOr_of {w : World} {a : Addr} {v : Value} (h : w.cell? a = some v) : w.cell? a = some (cellOr w a) := by unfold cellOr; rw [h]; rfl
theorem blk_set_cell {w : World} {b j : Nat} {cs : List Value} {t : TypeId} (h : Blk w b cs t) (hj : j < cs.length) (u : Value) : (w.setCell ⟨b, j, none⟩ u).cell? ⟨b, j, none⟩ = some u := by
  have := (h.set j u).cell j
  rw [this]
  simp [hj]

def Said1Post (W : World) (say : Nat → Nat) (i B : Nat) (e : Ending) (W' : World) : Prop :=
  ∃ laid, e = .returned (.bool laid) ∧ (laid = false → blkOf say i = zeros128) ∧ Blk W' B (natCells .u16 (blkOf say i)) 91 ∧ Keeps (fun k => k = B) W W'

set_option maxRecDepth 100000 in
set_option maxHeartbeats 1600000 in
theorem said1_calls {w0 : World} {say : Nat → Nat} {ev : Nat → Bool} {Ns : FuncId} {fs cs : Array Value} {Ne : FuncId} {fe ce : Array Value} (Y : SaysF w0 say ev Ns fs cs Ne fe ce) (W : World) (i B Be Bs : Nat) (hi : i < 8704) (cur : List Nat) (hO : Old w0 W) (hw0 : w0.heap.size ≤ B)
    (hB : Blk W B (natCells .u16 cur) 91) (hcur : cur.length = 128) (hE : Blk W Be [.func (.func Ne) fe ce] 117) (hS : Blk W Bs [.func (.func Ns) fs cs] 31) :
    Calls Try.prog 94 #[.int .i32 ((128 * i : Nat) : Int), .pointer (some ⟨B, 0, none⟩), .pointer (some ⟨Be, 0, none⟩), .pointer (some ⟨Bs, 0, none⟩)] W (Said1Post W say i B) := by
  have cE := hE.cell 0
  have cS := hS.cell 0
  simp only [List.getElem?_cons_zero] at cE cS
  have hBS : B ≠ Bs := blk_types hB hS (by decide)
  have HB := Aside0.mk hB
  have HS := Aside0.mk hS
  have entS := Y.entS
  have entE := Y.entE
  have HE := Aside0.mk (Y.evens W i hO hi)
  have HY := Aside0.mk Y
  have HO := Aside0.mk hO
  have eq1 : ((128 * i : Nat) : Int) / 128 = (i : Int) := by omega
  have hq0 : (0 : Int) ≤ ((128 * i : Nat) : Int) := Int.natCast_nonneg _
  have hqi : 128 * i ≤ 1113984 := by omega
  have HQ := Aside0.mk (rfl : 128 * i = 128 * i)
  generalize hqd : 128 * i = q at eq1 hq0 hqi
  have HQD := Aside0.mk hqd
  clear hB hS hE Y hO hqd HQ
  go_enter Try.func94, Try.ntmps94
  go_wp2_with fail
  refine HE.out.mono ?_
  rintro e w1 ⟨rfl, hb1⟩
  have HB1 := Aside0.mk (show Blk w1 B (natCells .u16 cur) 91 from (hb1.block B HB.out.lt).trans HB.out)
  have HS1 := Aside0.mk (show Blk w1 Bs [.func (.func Ns) fs cs] 31 from (hb1.block Bs HS.out.lt).trans HS.out)
  have HO1 := Aside0.mk (show Old w0 w1 from fun k hk => by
    have : k < W.heap.size := by have := HB.out.lt; omega
    exact (hb1.block k this).trans (HO.out k hk))
  have HK1 := Aside0.mk (show Keeps (fun k => k = B) W w1 from Keeps.of_below hb1)
  have cS1 := HS1.out.cell 0
  simp only [List.getElem?_cons_zero] at cS1
  clear hb1 HE
  cases hev : ev i with
  | true =>
    have HEV := Aside0.mk (HY.out.even_ok i hi hev)
    have HSY := Aside0.mk (HY.out.says w1 q HO1.out (by omega))
    have hbd := HY.out.bound q (by omega)
    have HX := Aside0.mk (show ∀ j, j < 128 → say (128 * i + j) = say q from fun j hj => by rw [HEV.out j hj, HQD.out])
    clear hev HEV
    generalize say q = x at HSY hbd HX
    go_wp2_with fail
    refine HSY.out.mono ?_
    rintro e w2 ⟨rfl, hb2⟩
    have HB2 := Aside0.mk (show Blk w2 B (natCells .u16 cur) 91 from (hb2.block B HB1.out.lt).trans HB1.out)
    have HK2 := Aside0.mk (show Keeps (fun k => k = B) W w2 from HK1.out.trans (Keeps.of_below hb2))
    clear hb2 HSY HB1 HS1 HK1 HO1 cS1
    go_wp2
    go_loopg [19] 129 (fun k v19 wr => ∃ j : Nat, j ≤ 128 ∧ 129 - j ≤ k ∧ v19 = .int .i64 (j : Int) ∧ Aside0 (∃ c : List Nat, c.length = 128 ∧ (∀ t, t < j → c.getD t 0 = x) ∧ Blk wr B (natCells .u16 c) 91) ∧ Aside0 (Keeps (fun k => k = B) W wr))
    case atStart => exact ⟨0, by omega, by omega, rfl, ⟨cur, hcur, fun t ht => absurd ht (Nat.not_lt_zero t), HB2.out⟩, HK2⟩
    case round =>
      obtain ⟨j, hj, hjk, rfl, hC, hK⟩ := hrel
      clear HB2 HK2
      by_cases hlt : j < 128
      · have hlt' : (j : Int) < 128 := by omega
        obtain ⟨c, hcl, hcx, hBc⟩ := hC.out
        have hcell := hBc.cell j
        rw [natCells_get _ _ _ (by omega)] at hcell
        have hfr := hBc.free j
        have HN := Aside0.mk (show ∃ c' : List Nat, c'.length = 128 ∧ (∀ t, t < j + 1 → c'.getD t 0 = x) ∧ Blk (wr.setCell ⟨B, j, none⟩ (.int .u16 (x : Int))) B (natCells .u16 c') 91 from
          ⟨c.set j x, by rw [List.length_set, hcl], fun t ht => by
            rw [getD_set _ _ _ _ (by omega)]
            split
            · rfl
            · exact hcx t (by omega), by rw [← natCells_set]; exact hBc.set j _⟩)
        have HKN := Aside0.mk (hK.out.setCell ⟨B, j, none⟩ (.int .u16 (x : Int)) (fun _ => rfl))
        clear hcl hcx hBc hC hK
        go_wp2
        go_roundg (gk - 1)
        case measure => omega
        case rel => exact ⟨j + 1, by omega, by omega, by go_num, HN, HKN⟩
      · have hlt' : ¬ (j : Int) < 128 := by omega
        obtain rfl : j = 128 := by omega
        obtain ⟨c, hcl, hcx, hBc⟩ := hC.out
        have hce := blk_eq (say := say) (i := i) hcl (fun t ht => by rw [hcx t ht, HX.out t ht])
        rw [hce] at hBc
        have HF : ∀ laid : Bool, (laid = false → x = 0) → Said1Post W say i B (.returned (.bool laid)) wr := fun laid hl => ⟨laid, rfl, fun h => blk_zero (fun t ht => by rw [HX.out t ht, hl h]), hBc, hK.out⟩
        have HFA := Aside0.mk HF
        clear hcl hcx hBc hce HF hC hK
        by_cases hx : x = 0
        · subst hx
          go_wp2
          go_ret
          exact HFA.out false (fun _ => by trivial)
        · have hxn : ((x : Int) != 0) = true := by rw [bne_iff_ne]; omega
          go_wp2
          go_ret
          exact HFA.out true (fun h => by cases h)
  | false =>
    clear hev
    go_wp2
    go_loopg [9, 31] 129 (fun k v9 v31 wr => ∃ (j : Nat) (any : Bool), j ≤ 128 ∧ 129 - j ≤ k ∧ v9 = .bool any ∧ v31 = .int .i64 (j : Int) ∧ Aside0 (any = false → ∀ t, t < j → say (128 * i + t) = 0) ∧ Aside0 (∃ c : List Nat, c.length = 128 ∧ (∀ t, t < j → c.getD t 0 = say (128 * i + t)) ∧ Blk wr B (natCells .u16 c) 91) ∧ Aside0 (Blk wr Bs [.func (.func Ns) fs cs] 31) ∧ Aside0 (Old w0 wr) ∧ Aside0 (Keeps (fun k => k = B) W wr))
    case atStart => exact ⟨0, false, by omega, by omega, rfl, rfl, ⟨fun _ t ht => absurd ht (Nat.not_lt_zero t)⟩, ⟨cur, hcur, fun t ht => absurd ht (Nat.not_lt_zero t), HB1.out⟩, HS1, HO1, HK1⟩
    case round =>
      obtain ⟨j, any, hj, hjk, rfl, rfl, hA, hC, hS, hO, hK⟩ := hrel
      clear HB1 HS1 HK1 HO1 cS1
      by_cases hlt : j < 128
      · have hlt' : (j : Int) < 128 := by omega
        obtain ⟨c, hcl, hcx, hBc⟩ := hC.out
        have hp : q + j < 1114112 := by omega
        have eqp : IntKind.i32.wrap ((q : Int) + (j : Int)) = ((q + j : Nat) : Int) := by rw [IntWalk.i32_in _ (by omega)]; omega
        have hbd := HY.out.bound (q + j) hp
        have hqj : 128 * i + j = q + j := by rw [HQD.out]
        have eqj : IntKind.i32.wrap (j : Int) = (j : Int) := IntWalk.i32_in _ (by omega)
        have hsy2 : ∀ W', Old w0 W' → Calls Try.prog Ns (fs.push (.int .i32 (IntKind.i32.wrap ((q : Int) + IntKind.i32.wrap (j : Int)))) ++ cs) W' (fun e W'' => e = .returned (.int .i64 (say (q + j) : Nat)) ∧ Below W'.heap.size W' W'') := fun W' ho => by
          rw [eqj, eqp]
          exact HY.out.says W' (q + j) ho hp
        have HSY := Aside0.mk hsy2
        have HSLT := Aside0.mk hS.out.lt
        have cS1 := hS.out.cell 0
        simp only [List.getElem?_cons_zero] at cS1
        have hcell := hBc.cell j
        rw [natCells_get _ _ _ (by omega)] at hcell
        have hfr := hBc.free j
        have hcell := cellOr_of hcell
        have HCX := Aside0.mk hcx
        have HBC := Aside0.mk hBc
        have HCL := Aside0.mk hcl
        have HQJ := Aside0.mk hqj
        generalize hx : say (q + j) = x at hbd HSY
        have HX := Aside0.mk hx
        clear hcl hcx hBc hC hqj hx hsy2 eqp eqj
        go_wp2
        have HJC := Aside0.mk (show j < (natCells .u16 c).length by rw [natCells_len, HCL.out]; exact hlt)
        have hk1 : ∀ w2 : World, Below wr.heap.size wr w2 → w2.cell? ⟨Bs, 0, none⟩ = some (.func (.func Ns) fs cs) ∧ w2.cell? ⟨B, j, none⟩ = some (cellOr w2 ⟨B, j, none⟩) ∧ w2.frozen? ⟨B, j, none⟩ = false := fun w2 hb2 => by
          have h1 : Blk w2 B (natCells .u16 c) 91 := (hb2.block B HBC.out.lt).trans HBC.out
          exact ⟨(World.cell?_of_block (a := ⟨Bs, 0, none⟩) (hb2.block Bs HSLT.out)).trans cS1, cellOr_of ((h1.cell j).trans (List.getElem?_eq_getElem HJC.out)), h1.free j⟩
        have hk2 : ∀ (w2 : World) (u : Value), Below wr.heap.size wr w2 → (w2.setCell ⟨B, j, none⟩ u).cell? ⟨Bs, 0, none⟩ = some (.func (.func Ns) fs cs) ∧ (w2.setCell ⟨B, j, none⟩ u).cell? ⟨B, j, none⟩ = some (cellOr (w2.setCell ⟨B, j, none⟩ u) ⟨B, j, none⟩) ∧ (w2.setCell ⟨B, j, none⟩ u).frozen? ⟨B, j, none⟩ = false := fun w2 u hb2 => by
          have h1 : Blk w2 B (natCells .u16 c) 91 := (hb2.block B HBC.out.lt).trans HBC.out
          exact ⟨(World.cell?_of_block (a := ⟨Bs, 0, none⟩) ((Below.heap_setCell w2 ⟨B, j, none⟩ u Bs (fun e => hBS e.symm)).trans (hb2.block Bs HSLT.out))).trans cS1, cellOr_of (blk_set_cell h1 HJC.out u), (h1.set j u).free j⟩
        have HK1 := Aside0.mk hk1
        have HK2 := Aside0.mk hk2
        clear hk1 hk2
        go_region_held3 (fun w' => w'.cell? ⟨Bs, 0, none⟩ = some (.func (.func Ns) fs cs) ∧ w'.cell? ⟨B, j, none⟩ = some (cellOr w' ⟨B, j, none⟩) ∧ w'.frozen? ⟨B, j, none⟩ = false) (first | exact ⟨cS1, hcell, hfr⟩ | exact HK1.out _ (below_undrew hb2) | exact HK2.out _ _ (below_undrew hb2) | go_keep) (first | ((with_reducible refine (HSY.out _ (Old.drew hO.out)).mono ?_); rintro e w2 ⟨rfl, hb2⟩))
        rw [show IntKind.u16.wrap (x : Int) = (x : Int) from IntWalk.u16_in _ (by omega)]
        have hb2' := below_undrew hb2
        have h1 : Blk w2 B (natCells .u16 c) 91 := (hb2'.block B HBC.out.lt).trans HBC.out
        have hcell3 := blk_set_cell h1 HJC.out (.int .u16 (x : Int))
        have HB3 := Aside0.mk (show ∃ c' : List Nat, c'.length = 128 ∧ (∀ t, t < j + 1 → c'.getD t 0 = say (128 * i + t)) ∧ Blk (w2.setCell ⟨B, j, none⟩ (.int .u16 (x : Int))) B (natCells .u16 c') 91 from
          ⟨c.set j x, by rw [List.length_set]; exact HCL.out, fun t ht => by
            rw [getD_set _ _ _ _ (by rw [HCL.out]; exact hlt)]
            split
            · rename_i e; subst e; rw [HQJ.out, HX.out]
            · exact HCX.out t (by omega), by rw [← natCells_set]; exact h1.set j _⟩)
        have HS3 := Aside0.mk (show Blk (w2.setCell ⟨B, j, none⟩ (.int .u16 (x : Int))) Bs [.func (.func Ns) fs cs] 31 from
          (Below.heap_setCell w2 ⟨B, j, none⟩ (.int .u16 (x : Int)) Bs (fun e => hBS e.symm)).trans ((hb2'.block Bs HSLT.out).trans hS.out))
        have HO3 := Aside0.mk (show Old w0 (w2.setCell ⟨B, j, none⟩ (.int .u16 (x : Int))) from fun k hk =>
          (Below.heap_setCell w2 ⟨B, j, none⟩ (.int .u16 (x : Int)) k (by show k ≠ B; omega)).trans ((hb2'.block k (by have := HBC.out.lt; omega)).trans (hO.out k hk)))
        have HK3 := Aside0.mk ((hK.out.trans (Keeps.of_below hb2')).setCell ⟨B, j, none⟩ (.int .u16 (x : Int)) (fun _ => rfl))
        have hxs := HX.out
        rw [← HQJ.out] at hxs
        have HA3 := Aside0.mk (show ∀ any', (any' = false → any = false ∧ x = 0) → (any' = false → ∀ t, t < j + 1 → say (128 * i + t) = 0) from fun any' h ha t ht => by
          obtain ⟨h1, h2⟩ := h ha
          by_cases e : t < j
          · exact hA.out h1 t e
          · have : t = j := by omega
            subst this
            rw [hxs, h2])
        clear h1 hb2 hb2' cS1 hcell hfr hA hS hO hK hxs HK1 HK2 HSY
        generalize w2.setCell ⟨B, j, none⟩ (.int .u16 (x : Int)) = w3 at *
        cases any with
        | true =>
          go_wp2
          go_roundg (gk - 1)
          case measure => omega
          case rel => exact ⟨j + 1, true, by omega, by omega, rfl, by go_num, ⟨HA3.out true (fun h => by cases h)⟩, HB3, HS3, HO3, HK3⟩
        | false =>
          by_cases hx0 : x = 0
          · subst hx0
            go_wp2
            go_roundg (gk - 1)
            case measure => omega
            case rel => exact ⟨j + 1, false, by omega, by omega, rfl, by go_num, ⟨HA3.out false (fun h => by simp)⟩, HB3, HS3, HO3, HK3⟩
          · have hxn : ((x : Int) != 0) = true := by rw [bne_iff_ne]; omega
            go_wp2
            go_roundg (gk - 1)
            case measure => omega
            case rel => exact ⟨j + 1, true, by omega, by omega, rfl, by go_num, ⟨HA3.out true (fun h => by cases h)⟩, HB3, HS3, HO3, HK3⟩
      · have hlt' : ¬ (j : Int) < 128 := by omega
        obtain rfl : j = 128 := by omega
        obtain ⟨c, hcl, hcx, hBc⟩ := hC.out
        have hce := blk_eq (say := say) (i := i) hcl hcx
        rw [hce] at hBc
        have HF := Aside0.mk (show Said1Post W say i B (.returned (.bool any)) wr from ⟨any, rfl, fun h => blk_zero (hA.out h), hBc, hK.out⟩)
        clear hcl hcx hBc hce hC hK hA hS hO
        go_wp2
        go_ret
        exact HF.out

theorem said_fill {w0 W3 : World} {say : Nat → Nat} {ev : Nat → Bool} {Ns : FuncId} {fs cs : Array Value} {Ne : FuncId} {fe ce : Array Value} (Y : SaysF w0 say ev Ns fs cs Ne fe ce) {Be Bs : Nat} (hold : Old w0 W3) (hw : w0.heap.size ≤ W3.heap.size)
    (hE : Blk W3 Be [.func (.func Ne) fe ce] 117) (hS : Blk W3 Bs [.func (.func Ns) fs cs] 31) :
    Fill W3 94 #[.pointer (some ⟨Be, 0, none⟩), .pointer (some ⟨Bs, 0, none⟩)] (fun _ => False) (fun _ W => Old W3 W) (blkOf say) where
  pr := fun k h => h.elim
  ent := call_enters Try.func94 (by kernel_rfl) (by kernel_rfl)
  start := Old.refl _
  stable := fun i W W' h hs => fun k hk => (hs k hk).trans (h k hk)
  len := fun i => blkOf_len _ _
  call := fun i hi W B hO hB hBk hW => by
    have e1 : ((i : Int) * 128) = ((128 * i : Nat) : Int) := by omega
    have e2 : (#[Value.int .i32 ((i : Int) * 128), .pointer (some ⟨B, 0, none⟩)] ++ #[Value.pointer (some ⟨Be, 0, none⟩), .pointer (some ⟨Bs, 0, none⟩)] : Array Value) =
      #[.int .i32 ((128 * i : Nat) : Int), .pointer (some ⟨B, 0, none⟩), .pointer (some ⟨Be, 0, none⟩), .pointer (some ⟨Bs, 0, none⟩)] := by rw [e1]; rfl
    rw [e2]
    refine (said1_calls Y W i B Be Bs hi zeros128 (fun k hk => (hO k (by omega)).trans (hold k hk)) (by omega) hBk zeros128_len ((hO Be hE.lt).trans hE) ((hO Bs hS.lt).trans hS)).mono ?_
    rintro e w' ⟨laid, rfl, h1, h2, h3⟩
    exact ⟨laid, rfl, h1, fun k hk => (h3.block k (by omega) (by omega)).trans (hO k hk), h2, h3.mono fun k hk h => .inr h⟩

def SaidPost (w : World) (say : Nat → Nat) (e : Ending) (w' : World) : Prop := Below w.heap.size w w' ∧ ∃ b, e = .returned (.pointer (some ⟨b, 0, none⟩)) ∧ TabSays w' b say

set_option maxRecDepth 100000 in
set_option maxHeartbeats 800000 in
theorem said_calls {w : World} {say : Nat → Nat} {ev : Nat → Bool} {Ns : FuncId} {fs cs : Array Value} {Ne : FuncId} {fe ce : Array Value} (Y : SaysF w say ev Ns fs cs Ne fe ce) :
    Calls Try.prog 68 #[.func (.func Ns) fs cs, .func (.func Ne) fe ce] w (SaidPost w say) := by
  have hb := below_alloc (below_alloc (Below.refl w.heap.size w) (.cells #[.func (.func Ns) fs cs] 31)) (.cells #[.func (.func Ne) fe ce] 117)
  have hS := (blk_new w [.func (.func Ns) fs cs] 31).alloc (.cells #[.func (.func Ne) fe ce] 117)
  have hE := blk_new (w.alloc (.cells #[.func (.func Ns) fs cs] 31)) [.func (.func Ne) fe ce] 117
  rw [alloc_size] at hE
  have hm := made_calls (said_fill Y (Old.of_below hb) hb.size hE hS) (fun i hi j => by
    rcases Nat.lt_or_ge j 128 with hj | hj
    · rw [blkOf_get _ _ _ hj]; exact Y.bound _ (by omega)
    · rw [List.getD_eq_getElem?_getD, List.getElem?_eq_none (by rw [blkOf_len]; exact hj)]; exact Nat.zero_le _)
  have HM := Aside0.mk hm
  have HB := Aside0.mk hb
  have hmf : ∀ (fn : Fn) (first cap : Array Value) (w : World), (Instr.makeFunc fn first cap).run Try.prog w = .ok (.func fn first cap) w := fun _ _ _ _ => rfl
  clear hb hS hE hm Y
  go_enter Try.func68, Try.ntmps68
  go_wp2_with fail
  refine HM.out.mono ?_
  rintro e w3 ⟨b, gu, c, gp, c', rfl, ht, _, hk⟩
  have HF := Aside0.mk (show SaidPost w say (.returned (.pointer (some ⟨b, 0, none⟩))) w3 from
    ⟨HB.out.trans ((hk.below).mono HB.out.size), b, rfl, gu, c, gp, c', ht⟩)
  clear ht hk
  go_wp2
  go_ret
  exact HF.out

end Go.Proofs.Ytajmbafljncjcaa.Stage

/-! ### Swap: Swap: a table with one number in the place of another one. -/
namespace Go.Proofs.Ytajmbafljncjcaa.Stage
open Go.RowKit Go.Proofs.YtajmbafljncjcaaW.PrintWords Go.Proofs.YtajmbafljncjcaaW.PrintLast Go.Proofs.YtajmbafljncjcaaW.PrintMore Go.Proofs.Ytajmbafljncjcaa.Mp
set_option linter.unusedVariables false
set_option linter.unusedSimpArgs false

def swapSay (say : Nat → Nat) (n m p : Nat) : Nat := if say p = n then m else say p

set_option maxRecDepth 100000 in
theorem swap1_calls (W : World) (v : Option Addr) (say : Nat → Nat) (hh : Han W v say) (n m p Bt Bn Bm : Nat) (hp : p < 1114112) (hT : Blk W Bt [.pointer v] 23) (hN : Blk W Bn [.int .i64 (n : Int)] 3) (hM : Blk W Bm [.int .i64 (m : Int)] 3) :
    Calls Try.prog 69 #[.int .i32 (p : Int), .pointer (some ⟨Bt, 0, none⟩), .pointer (some ⟨Bn, 0, none⟩), .pointer (some ⟨Bm, 0, none⟩)] W fun e W' => e = .returned (.int .i64 (swapSay say n m p : Nat)) ∧ Below W.heap.size W W' := by
  have cT := hT.cell 0
  have cN := hN.cell 0
  have cM := hM.cell 0
  simp only [List.getElem?_cons_zero] at cT cN cM
  have hl := look_calls W v say hh (p : Int)
  have hli : lookI say (p : Int) = ((say p : Nat) : Int) := by unfold lookI; rw [if_pos (by omega), Int.toNat_natCast]
  unfold LookPost at hl
  rw [hli] at hl
  have HL := Aside0.mk hl
  have HS := Aside0.mk (show swapSay say n m p = if say p = n then m else say p from rfl)
  generalize say p = x at HL HS
  clear hh hl hli hT hN hM
  go_enter Try.func69, Try.ntmps69
  go_wp2_with fail
  refine HL.out.mono ?_
  rintro e w1 ⟨rfl, k, rfl⟩
  clear HL
  by_cases hx : x = n
  · subst hx
    rw [if_pos rfl] at HS
    go_wp2
    go_ret
    exact ⟨by rw [HS.out]; rfl, pw_below_drewN (Below.refl _ _) _⟩
  · rw [if_neg hx] at HS
    have hxn : ((x : Int) != (n : Int)) = true := by rw [bne_iff_ne]; omega
    go_wp2
    go_ret
    exact ⟨by rw [HS.out]; rfl, pw_below_drewN (Below.refl _ _) _⟩

theorem swap_says {w W3 : World} {v : Option Addr} {say : Nat → Nat} (hh : Han w v say) (n m Bt Bn Bm : Nat) (hn : n ≤ 65535) (hm : m ≤ 65535) (hold : Below w.heap.size w W3) (hT : Blk W3 Bt [.pointer v] 23) (hN : Blk W3 Bn [.int .i64 (n : Int)] 3) (hM : Blk W3 Bm [.int .i64 (m : Int)] 3)
    (hb : ∀ p, p < 1114112 → say p ≤ 65535) :
    SaysF W3 (swapSay say n m) (evenB say) 69 #[] #[.pointer (some ⟨Bt, 0, none⟩), .pointer (some ⟨Bn, 0, none⟩), .pointer (some ⟨Bm, 0, none⟩)] 70 #[.pointer v] #[] where
  entS := call_enters Try.func69 (by kernel_rfl) (by kernel_rfl)
  entE := call_enters Try.func70 (by kernel_rfl) (by kernel_rfl)
  bound := fun p hp => by unfold swapSay; have := hb p hp; split <;> omega
  even_ok := fun i hi h j hj => by unfold swapSay; rw [evenB_ok h j hj]
  says := fun W p hO hp => by
    have hh' : Han W v say := by
      rcases hh.below hold with h | ⟨b, rfl, g, c, g', c', ht⟩
      · exact .inl h
      · exact .inr ⟨b, rfl, g, c, g', c', ht.same hO⟩
    exact swap1_calls W v say hh' n m p Bt Bn Bm hp ((hO Bt hT.lt).trans hT) ((hO Bn hN.lt).trans hN) ((hO Bm hM.lt).trans hM)
  evens := fun W i hO hi => by
    have hh' : Han W v say := by
      rcases hh.below hold with h | ⟨b, rfl, g, c, g', c', ht⟩
      · exact .inl h
      · exact .inr ⟨b, rfl, g, c, g', c', ht.same hO⟩
    refine (even_calls W v say hh' i hi).mono ?_
    rintro e w' ⟨rfl, k, rfl⟩
    exact ⟨rfl, pw_below_drewN (Below.refl _ _) _⟩

def SwapPost (w : World) (say : Nat → Nat) (n m : Int) (e : Ending) (w' : World) : Prop :=
  Below w.heap.size w w' ∧ (((n < 0 ∨ 65535 < n ∨ m < 0 ∨ 65535 < m) ∧ e = .returned (.tuple #[.pointer none, .int .i64 81])) ∨
    ((0 ≤ n ∧ n ≤ 65535 ∧ 0 ≤ m ∧ m ≤ 65535) ∧ ∃ b, e = .returned (.tuple #[.pointer (some ⟨b, 0, none⟩), .int .i64 0]) ∧ TabSays w' b (swapSay say n.toNat m.toNat)))

set_option maxRecDepth 100000 in
set_option maxHeartbeats 800000 in
theorem swap_calls (w : World) (v : Option Addr) (say : Nat → Nat) (hh : Han w v say) (hbd : ∀ p, p < 1114112 → say p ≤ 65535) (n m : Int) :
    Calls Try.prog 34 #[.pointer v, .int .i64 n, .int .i64 m] w (SwapPost w say n m) := by
  have hb := below_alloc (below_alloc (below_alloc (Below.refl w.heap.size w) (.cells #[.pointer v] 23)) (.cells #[.int .i64 n] 3)) (.cells #[.int .i64 m] 3)
  have hT := ((blk_new w [.pointer v] 23).alloc (.cells #[.int .i64 n] 3)).alloc (.cells #[.int .i64 m] 3)
  have hN := (blk_new (w.alloc (.cells #[.pointer v] 23)) [.int .i64 n] 3).alloc (.cells #[.int .i64 m] 3)
  have hM := blk_new ((w.alloc (.cells #[.pointer v] 23)).alloc (.cells #[.int .i64 n] 3)) [.int .i64 m] 3
  simp only [alloc_size] at hN hM
  have HB := Aside0.mk hb
  have hmf : ∀ (fn : Fn) (first cap : Array Value) (w : World), (Instr.makeFunc fn first cap).run Try.prog w = .ok (.func fn first cap) w := fun _ _ _ _ => rfl
  by_cases hbad : n < 0 ∨ 65535 < n ∨ m < 0 ∨ 65535 < m
  · have HF := Aside0.mk (show SwapPost w say n m (.returned (.tuple #[.pointer none, .int .i64 81])) (((w.alloc (.cells #[.pointer v] 23)).alloc (.cells #[.int .i64 n] 3)).alloc (.cells #[.int .i64 m] 3)) from ⟨hb, .inl ⟨hbad, rfl⟩⟩)
    clear hb hT hN hM hh hbd HB
    by_cases h1 : n < 0
    · clear hbad
      go_enter Try.func34, Try.ntmps34
      go_wp2
      go_ret2
      exact HF.out
    · by_cases h2 : 65535 < n
      · clear hbad
        go_enter Try.func34, Try.ntmps34
        go_wp2
        go_ret2
        exact HF.out
      · by_cases h3 : m < 0
        · clear hbad
          go_enter Try.func34, Try.ntmps34
          go_wp2
          go_ret2
          exact HF.out
        · have h4 : 65535 < m := by omega
          clear hbad
          go_enter Try.func34, Try.ntmps34
          go_wp2
          go_ret2
          exact HF.out
  · have h1 : 0 ≤ n := by omega
    have h2 : n ≤ 65535 := by omega
    have h3 : 0 ≤ m := by omega
    have h4 : m ≤ 65535 := by omega
    have en : ((n.toNat : Nat) : Int) = n := Int.toNat_of_nonneg h1
    have em : ((m.toNat : Nat) : Int) = m := Int.toNat_of_nonneg h3
    have hY := swap_says hh n.toNat m.toNat _ _ _ (by omega) (by omega) hb hT (by rw [en]; exact hN) (by rw [em]; exact hM) hbd
    have HS := Aside0.mk (said_calls hY)
    clear hb hT hN hM hh hbd hbad en em hY
    go_enter Try.func34, Try.ntmps34
    go_wp2_with fail
    refine HS.out.mono ?_
    rintro e w1 ⟨hb1, b, rfl, ht⟩
    have HF := Aside0.mk (show SwapPost w say n m (.returned (.tuple #[.pointer (some ⟨b, 0, none⟩), .int .i64 0])) w1 from
      ⟨HB.out.trans (hb1.mono HB.out.size), .inr ⟨⟨h1, h2, h3, h4⟩, b, rfl, ht⟩⟩)
    clear hb1 ht HS
    go_wp2
    go_ret2
    exact HF.out

end Go.Proofs.Ytajmbafljncjcaa.Stage

/-! ### SwapP: Plain lists: a number in the place of another one; stretches between two code points. No program here. -/
namespace Go.Proofs.Ytajmbafljncjcaa.Stage
set_option linter.unusedVariables false
set_option linter.unusedSimpArgs false

/-- The fewest rows of what covers all. -/
theorem Cov.least {S : Nat → Nat} (hS : ∀ p, p < 1114112 → S p ≤ 65535) {l : List (Nat × Nat × Nat)} (h : Cov S 1114112 0 l) : RiseN 0 l ∧ RiseN 0 (nz (runsN [] 0 l)) ∧ (nz (runsN [] 0 l)).length ≤ 1114112 ∧ l.length ≤ 1114112 ∧ ∀ p, p < 1114112 → sayQ (nz (runsN [] 0 l)) p = S p := by
  have hr := Cov.rise (Nat.le_refl _) hS h
  have ht := runsN_ok hr
  refine ⟨hr, Til.nz_rise (Nat.le_refl _) (fun p _ => sayQ_le hr p) ht, ?_, ?_, fun p hp => ?_⟩
  · have h1 : (nz (runsN [] 0 l)).length ≤ _ := List.length_filter_le _ _
    have h2 := ht.length
    omega
  · have := h.length
    omega
  · have e1 := Til.nz_says (Nat.le_refl _) (fun p _ => sayQ_le hr p) ht p (Nat.zero_le _) hp
    rw [e1]
    unfold sayQ
    rw [h.says p (Nat.zero_le _) hp]
    rfl

theorem Til.cov_map {say : Nat → Nat} (f : Nat → Nat) {hi : Nat} : ∀ {l : List (Nat × Nat × Nat)} {low : Nat}, Til say hi low l → Cov (fun p => f (say p)) hi low (l.map fun x => (x.1, x.2.1, f x.2.2))
  | [], low, h => h
  | x :: l, low, h => ⟨h.1, h.2.1, fun p ha hb => congrArg f (h.2.2.1 p ha hb), h.2.2.2.2.cov_map f⟩

/-- The document's Swap, ahead of Least. -/
def swapR (n m : Nat) (q : List (Nat × Nat × Nat)) : List (Nat × Nat × Nat) := (runsN [] 0 q).map fun x => (x.1, x.2.1, if x.2.2 = n then m else x.2.2)
theorem swapR_ok {q : List (Nat × Nat × Nat)} (h : RiseN 0 q) (n m : Nat) (hm : m ≤ 65535) : RiseN 0 (swapR n m q) ∧ RiseN 0 (nz (runsN [] 0 (swapR n m q))) ∧ (nz (runsN [] 0 (swapR n m q))).length ≤ 1114112 ∧ (swapR n m q).length ≤ 1114112 ∧ ∀ p, p < 1114112 → sayQ (nz (runsN [] 0 (swapR n m q))) p = swapSay (sayQ q) n m p := by
  have hc := (runsN_ok h).cov_map (fun x => if x = n then m else x)
  exact hc.least (fun p hp => by have := sayQ_le h p; show (if sayQ q p = n then m else sayQ q p) ≤ 65535; split <;> omega)

/-- Stretches, cut at two code points. -/
def betwN (a b : Nat) : List (Nat × Nat × Nat) → List (Nat × Nat × Nat)
  | [] => []
  | x :: l => if max x.1 a ≤ min x.2.1 b then (max x.1 a, min x.2.1 b, x.2.2) :: betwN a b l else betwN a b l
theorem betwN_none {say : Nat → Nat} {a b hi : Nat} : ∀ {l : List (Nat × Nat × Nat)} {low : Nat}, Til say hi low l → b < low → betwN a b l = []
  | [], low, h, hb => rfl
  | x :: l, low, h, hb => by
    unfold betwN
    have := h.1
    have := h.2.1
    rw [if_neg (by omega)]
    exact betwN_none h.2.2.2.2 (by omega)
theorem betwN_til {say : Nat → Nat} {a b hi : Nat} (hab : a ≤ b) (hb : b < hi) : ∀ {l : List (Nat × Nat × Nat)} {low : Nat}, Til say hi low l → Til say (b + 1) (min (max low a) (b + 1)) (betwN a b l)
  | [], low, h => by
    have : low = hi := h
    show min (max low a) (b + 1) = b + 1
    omega
  | x :: l, low, h => by
    obtain ⟨h1, h2, h3, h4, h5⟩ := h
    have ih := betwN_til hab hb h5
    unfold betwN
    by_cases c : max x.1 a ≤ min x.2.1 b
    · rw [if_pos c]
      refine ⟨by simp only; omega, by simp only; omega, fun p ha hb2 => h3 p (by omega) (by simp only at hb2; omega), ?_, ?_⟩
      · intro z hz
        by_cases c2 : b ≤ x.2.1
        · rw [betwN_none h5 (by omega)] at hz
          cases hz
        · cases l with
          | nil => cases hz
          | cons y l =>
            obtain ⟨k1, k2, _⟩ := h5
            unfold betwN at hz
            rw [if_pos (by omega)] at hz
            simp only [List.head?_cons, Option.mem_def, Option.some.injEq] at hz
            subst hz
            exact h4 y rfl
      · rw [show min x.2.1 b + 1 = min (max (x.2.1 + 1) a) (b + 1) by omega]
        exact ih
    · rw [if_neg c]
      rw [show min (max low a) (b + 1) = min (max (x.2.1 + 1) a) (b + 1) by omega]
      exact ih
theorem betwN_len (a b : Nat) : ∀ l : List (Nat × Nat × Nat), (betwN a b l).length ≤ l.length
  | [] => Nat.le_refl _
  | x :: l => by
    have := betwN_len a b l
    unfold betwN
    split <;> simp only [List.length_cons] <;> omega

end Go.Proofs.Ytajmbafljncjcaa.Stage
